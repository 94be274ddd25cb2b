/-
  Proved here: changes are noticed.
-/
import Derived.Test.YtdgeiooacghcoaaHead
import Derived.Test.YtdgeiooacghcoaaDrawK
import Derived.Test.YtdgeiooacghcoaaSame
import Derived.Test.YtdgeiooacghcoaaPlain
import Derived.Test.YtdgeiooacghcoaaBytes
namespace Go.Proofs.Ytdgeiooacghcoaa
set_option linter.unusedSimpArgs false
set_option linter.unusedVariables false
set_option linter.unusedSectionVars false
open Go Go.RowKit Go.ChangeShapes Go.WideShapes Go.ChangeAt
set_option maxHeartbeats 8000000 in
set_option maxRecDepth 20000 in
theorem L_FnOpenChecked (v : Value) (w0 : World) (h : Bytes w0 v) : Calls Try.prog 11 #[v] w0 fun e w' => e = .returned (.bool true) ∧ Below w0.heap.size w0 w' := by
  have HB0 := Lib.hid h
  obtain ⟨A, n, cap, rfl, hcap, hmax, _⟩ := h
  unfold maxLen at hmax
  by_cases hbig : n > 1048576
  · obtain ⟨L, HL, S⟩ := st_start w0; have F : True := trivial
    go_enter Try.func11, Try.ntmps11
    go_wp2_with (first | (refine wpList_box rfl S _ _ rfl ?_; intro g w L hM T; clear F S; (try rw [HL.out] at hM); clear HL; (try simp [Act.put, Act.eval, Value.cells, splice] at hM); have HL := Lib.hid hM; clear hM; have S := T; clear T; have F := factsAll HL S; (try simp only [factsOf, cellsFrom, and_true, true_and, Nat.reduceAdd] at F))  | (refine wpList_store_box rfl S _ _ _ rfl 0 _ _ _ _ (atOf HL rfl) rfl _ rfl (by kernel_rfl) rfl rfl ?_; intro w L hM T; clear F S; (try rw [HL.out] at hM); clear HL; (try simp [Act.put, Act.eval, Value.cells, splice] at hM); have HL := Lib.hid hM; clear hM; have S := T; clear T; have F := factsAll HL S; (try simp only [factsOf, cellsFrom, and_true, true_and, Nat.reduceAdd] at F)) | (refine wpList_store_box rfl S _ _ _ rfl 1 _ _ _ _ (atOf HL rfl) rfl _ rfl (by kernel_rfl) rfl rfl ?_; intro w L hM T; clear F S; (try rw [HL.out] at hM); clear HL; (try simp [Act.put, Act.eval, Value.cells, splice] at hM); have HL := Lib.hid hM; clear hM; have S := T; clear T; have F := factsAll HL S; (try simp only [factsOf, cellsFrom, and_true, true_and, Nat.reduceAdd] at F)) | (refine wpList_store_box rfl S _ _ _ rfl 2 _ _ _ _ (atOf HL rfl) rfl _ rfl (by kernel_rfl) rfl rfl ?_; intro w L hM T; clear F S; (try rw [HL.out] at hM); clear HL; (try simp [Act.put, Act.eval, Value.cells, splice] at hM); have HL := Lib.hid hM; clear hM; have S := T; clear T; have F := factsAll HL S; (try simp only [factsOf, cellsFrom, and_true, true_and, Nat.reduceAdd] at F)) | (refine wpList_store_box rfl S _ _ _ rfl 3 _ _ _ _ (atOf HL rfl) rfl _ rfl (by kernel_rfl) rfl rfl ?_; intro w L hM T; clear F S; (try rw [HL.out] at hM); clear HL; (try simp [Act.put, Act.eval, Value.cells, splice] at hM); have HL := Lib.hid hM; clear hM; have S := T; clear T; have F := factsAll HL S; (try simp only [factsOf, cellsFrom, and_true, true_and, Nat.reduceAdd] at F))  )
    go_ret
    exact ⟨rfl, S.below⟩
  obtain ⟨L, HL, S⟩ := st_start w0; have F : True := trivial
  go_enter Try.func11, Try.ntmps11
  go_upto_region 4 with (first | (refine wpList_box rfl S _ _ rfl ?_; intro g w L hM T; clear F S; (try rw [HL.out] at hM); clear HL; (try simp [Act.put, Act.eval, Value.cells, splice] at hM); have HL := Lib.hid hM; clear hM; have S := T; clear T; have F := factsAll HL S; (try simp only [factsOf, cellsFrom, and_true, true_and, Nat.reduceAdd] at F)) | (refine wpList_store_box rfl S _ _ _ rfl 0 _ _ _ _ (atOf HL rfl) rfl _ rfl (by kernel_rfl) rfl rfl ?_; intro w L hM T; clear F S; (try rw [HL.out] at hM); clear HL; (try simp [Act.put, Act.eval, Value.cells, splice] at hM); have HL := Lib.hid hM; clear hM; have S := T; clear T; have F := factsAll HL S; (try simp only [factsOf, cellsFrom, and_true, true_and, Nat.reduceAdd] at F)) | (refine wpList_store_box rfl S _ _ _ rfl 1 _ _ _ _ (atOf HL rfl) rfl _ rfl (by kernel_rfl) rfl rfl ?_; intro w L hM T; clear F S; (try rw [HL.out] at hM); clear HL; (try simp [Act.put, Act.eval, Value.cells, splice] at hM); have HL := Lib.hid hM; clear hM; have S := T; clear T; have F := factsAll HL S; (try simp only [factsOf, cellsFrom, and_true, true_and, Nat.reduceAdd] at F)) | (refine wpList_alloc rfl S 46 _ rfl zCk ?_; intro g w L hM T; clear F S; (try rw [HL.out] at hM); clear HL; (try simp [Act.put, Act.eval, Value.cells, splice] at hM); have HL := Lib.hid hM; clear hM; have S := T; clear T; have F := factsAll HL S; (try simp only [factsOf, cellsFrom, and_true, true_and, Nat.reduceAdd] at F)) | (go_at_call 54; refine (C_DrawOpenChecked _ _ (HB0.out.below S.below)).mono ?_; rintro e w1 ⟨a, b, c, d, key, rfl, hB⟩; replace S := S.grow hB; clear hB))
  cases hA : openOk ⟨⟨a, b⟩, ⟨c, d⟩⟩ key with
  | false =>
    have h1 : openC ⟨⟨a, b⟩, ⟨c, d⟩⟩ key = -1 := by simp [openC, hA]
    go_wp2_with (first | (refine wpList_box rfl S _ _ rfl ?_; intro g w L hM T; clear F S; (try rw [HL.out] at hM); clear HL; (try simp [Act.put, Act.eval, Value.cells, splice] at hM); have HL := Lib.hid hM; clear hM; have S := T; clear T; have F := factsAll HL S; (try simp only [factsOf, cellsFrom, and_true, true_and, Nat.reduceAdd] at F)) | (refine wpList_alloc rfl S 46 _ rfl zCk ?_; intro g w L hM T; clear F S; (try rw [HL.out] at hM); clear HL; (try simp [Act.put, Act.eval, Value.cells, splice] at hM); have HL := Lib.hid hM; clear hM; have S := T; clear T; have F := factsAll HL S; (try simp only [factsOf, cellsFrom, and_true, true_and, Nat.reduceAdd] at F)) | (refine wpList_store_box rfl S _ _ _ rfl 0 _ _ _ _ (atOf HL rfl) rfl _ rfl (by kernel_rfl) rfl rfl ?_; intro w L hM T; clear F S; (try rw [HL.out] at hM); clear HL; (try simp [Act.put, Act.eval, Value.cells, splice] at hM); have HL := Lib.hid hM; clear hM; have S := T; clear T; have F := factsAll HL S; (try simp only [factsOf, cellsFrom, and_true, true_and, Nat.reduceAdd] at F)) | (refine wpList_store_box rfl S _ _ _ rfl 1 _ _ _ _ (atOf HL rfl) rfl _ rfl (by kernel_rfl) rfl rfl ?_; intro w L hM T; clear F S; (try rw [HL.out] at hM); clear HL; (try simp [Act.put, Act.eval, Value.cells, splice] at hM); have HL := Lib.hid hM; clear hM; have S := T; clear T; have F := factsAll HL S; (try simp only [factsOf, cellsFrom, and_true, true_and, Nat.reduceAdd] at F)) | (refine wpList_store_box rfl S _ _ _ rfl 2 _ _ _ _ (atOf HL rfl) rfl _ rfl (by kernel_rfl) rfl rfl ?_; intro w L hM T; clear F S; (try rw [HL.out] at hM); clear HL; (try simp [Act.put, Act.eval, Value.cells, splice] at hM); have HL := Lib.hid hM; clear hM; have S := T; clear T; have F := factsAll HL S; (try simp only [factsOf, cellsFrom, and_true, true_and, Nat.reduceAdd] at F)) | (refine wpList_store_box rfl S _ _ _ rfl 3 _ _ _ _ (atOf HL rfl) rfl _ rfl (by kernel_rfl) rfl rfl ?_; intro w L hM T; clear F S; (try rw [HL.out] at hM); clear HL; (try simp [Act.put, Act.eval, Value.cells, splice] at hM); have HL := Lib.hid hM; clear hM; have S := T; clear T; have F := factsAll HL S; (try simp only [factsOf, cellsFrom, and_true, true_and, Nat.reduceAdd] at F)) | (go_at_call 38; refine (C_impl_OpenChecked _ _ _ _ _ _).mono ?_; rintro e w ⟨rfl, hb⟩; replace S := S.grow hb; clear hb) | (go_at_call 55; refine (C_spec_OpenChecked _ _ _ _ _ _).mono ?_; rintro e w ⟨rfl, hb⟩; replace S := S.grow hb; clear hb) | (go_at_call 21; refine (C_alive _).mono ?_; rintro e w' ⟨rfl, rfl⟩))
    all_goals (go_ret; exact ⟨rfl, S.below⟩)
  | true =>
    have h1 := open_val hA
    dsimp only at h1
    go_upto_region 12 with (first | (refine wpList_store_box rfl S _ _ _ rfl 0 _ _ _ _ (atOf HL rfl) rfl _ rfl (by kernel_rfl) rfl rfl ?_; intro w L hM T; clear F S; (try rw [HL.out] at hM); clear HL; (try simp [Act.put, Act.eval, Value.cells, splice] at hM); have HL := Lib.hid hM; clear hM; have S := T; clear T; have F := factsAll HL S; (try simp only [factsOf, cellsFrom, and_true, true_and, Nat.reduceAdd] at F)) | (refine wpList_alloc rfl S 46 _ rfl zCk ?_; intro g w L hM T; clear F S; (try rw [HL.out] at hM); clear HL; (try simp [Act.put, Act.eval, Value.cells, splice] at hM); have HL := Lib.hid hM; clear hM; have S := T; clear T; have F := factsAll HL S; (try simp only [factsOf, cellsFrom, and_true, true_and, Nat.reduceAdd] at F)) | (go_at_call 38; refine (C_impl_OpenChecked _ _ _ _ _ _).mono ?_; rintro e w ⟨rfl, hb⟩; replace S := S.grow hb; clear hb) | (go_at_call 55; refine (C_spec_OpenChecked _ _ _ _ _ _).mono ?_; rintro e w ⟨rfl, hb⟩; replace S := S.grow hb; clear hb) | (go_at_call 39; refine (C_impl_AddKnown _ _ _ _).mono ?_; rintro e w ⟨rfl, hb⟩; replace S := S.grow hb; clear hb))
    have h2 := changed_not hA (d := 1 + (n : Int) % 4095) ⟨by omega, by omega⟩
    generalize addK ⟨a, b⟩ (1 + (n : Int) % 4095) = D at HL F h2
    obtain ⟨p, q⟩ := D
    dsimp only at HL F h2
    go_wp2_with (first | (refine wpList_box rfl S _ _ rfl ?_; intro g w L hM T; clear F S; (try rw [HL.out] at hM); clear HL; (try simp [Act.put, Act.eval, Value.cells, splice] at hM); have HL := Lib.hid hM; clear hM; have S := T; clear T; have F := factsAll HL S; (try simp only [factsOf, cellsFrom, and_true, true_and, Nat.reduceAdd] at F))  | (refine wpList_store_box rfl S _ _ _ rfl 0 _ _ _ _ (atOf HL rfl) rfl _ rfl (by kernel_rfl) rfl rfl ?_; intro w L hM T; clear F S; (try rw [HL.out] at hM); clear HL; (try simp [Act.put, Act.eval, Value.cells, splice] at hM); have HL := Lib.hid hM; clear hM; have S := T; clear T; have F := factsAll HL S; (try simp only [factsOf, cellsFrom, and_true, true_and, Nat.reduceAdd] at F)) | (refine wpList_store_box rfl S _ _ _ rfl 1 _ _ _ _ (atOf HL rfl) rfl _ rfl (by kernel_rfl) rfl rfl ?_; intro w L hM T; clear F S; (try rw [HL.out] at hM); clear HL; (try simp [Act.put, Act.eval, Value.cells, splice] at hM); have HL := Lib.hid hM; clear hM; have S := T; clear T; have F := factsAll HL S; (try simp only [factsOf, cellsFrom, and_true, true_and, Nat.reduceAdd] at F)) | (refine wpList_store_box rfl S _ _ _ rfl 2 _ _ _ _ (atOf HL rfl) rfl _ rfl (by kernel_rfl) rfl rfl ?_; intro w L hM T; clear F S; (try rw [HL.out] at hM); clear HL; (try simp [Act.put, Act.eval, Value.cells, splice] at hM); have HL := Lib.hid hM; clear hM; have S := T; clear T; have F := factsAll HL S; (try simp only [factsOf, cellsFrom, and_true, true_and, Nat.reduceAdd] at F)) | (refine wpList_store_box rfl S _ _ _ rfl 3 _ _ _ _ (atOf HL rfl) rfl _ rfl (by kernel_rfl) rfl rfl ?_; intro w L hM T; clear F S; (try rw [HL.out] at hM); clear HL; (try simp [Act.put, Act.eval, Value.cells, splice] at hM); have HL := Lib.hid hM; clear hM; have S := T; clear T; have F := factsAll HL S; (try simp only [factsOf, cellsFrom, and_true, true_and, Nat.reduceAdd] at F)) | (go_at_call 38; refine (C_impl_OpenChecked _ _ _ _ _ _).mono ?_; rintro e w ⟨rfl, hb⟩; replace S := S.grow hb; clear hb) | (go_at_call 56; refine (C_impl_JoinShares _ _ _).mono ?_; rintro e w ⟨rfl, hb⟩; replace S := S.grow hb; clear hb) )
    go_ret
    exact ⟨rfl, S.below⟩

set_option maxRecDepth 100000 in
theorem FnOpenChecked_lifted (os : Os) (started : os.Started) (H : Type) (enc : TypeId × Value → H) :
    ReturnsInHanded {} Try.checked os 11 .any (Rows.fnOpenCheckedSpec.pre6 enc Try.prog Try.f11 Rows.fnOpenCheckedRow.domain false) (Rows.fnOpenCheckedSpec.post enc Try.prog Try.f11 false true false false) := by
  refine returnsInHanded_of_change (C := Try.checked) Try.ownKnob_ started (by kernel_rfl) Try.func11
    (ChangeSpec.witness6 (enc := enc) (C := Try.checked) false ⟨#[], #[.slice none 0 0], []⟩ 8 (by kernel_rfl) (by kernel_rfl) (by kernel_rfl) (by kernel_rfl)) ?_
  intro W base args ds gs before hval0 hW _ _
  have hval : ∀ (j : Nat) t v, Try.f11.params[j]? = some t → args[j]? = some v → Value.okWide Try.prog W .any base t v := hval0
  have hW' := hW
  obtain ⟨p, q, hA0, hV, rfl, _, _⟩ := hW
  have hA : DataW.TrodAll enc Try.prog W 0 (fun _ => true) true Try.f11.params.toList args.toList ds p := hA0
  rw [Try.params11] at hA hval
  obtain ⟨v0, vs0, d0, ds0, p0, q0, hargs, rfl, rfl, h0, r0⟩ := trodAll_cons hA
  obtain ⟨rfl, rfl, rfl⟩ := trodAll_nil r0
  obtain rfl : args = #[v0] := by cases args; simp_all
  obtain ⟨rfl, rfl⟩ := trodVars_none hV
  clear hA0 hval0
  have s0 := open_bytes (e := 5) (by kernel_rfl) (hval 0 _ v0 rfl rfl) h0
  refine (L_FnOpenChecked _ W s0).mono fun e W' ⟨he, hb⟩ => ⟨_, he, ?_⟩
  exact law_post 4 Try.underlying4 Try.laidOut_ (by kernel_rfl) rfl rfl hW' ⟨rfl, rfl, rfl⟩ hb

theorem FnOpenChecked_holds : Rows.FnOpenCheckedSaid :=
  OpenClaim.holds_of_wide 11 Try.f11 rfl rfl rfl rfl rfl rfl rfl ⟨rfl, rfl, rfl, rfl, rfl⟩ rfl rfl rfl rfl rfl (by kernel_rfl) Try.func11 (closed_of (by kernel_rfl))
    (of_decide_eq_true (by kernel_rfl)) (by unfold Func.isWrapper; first | (rw [if_pos (by decide +kernel)]; kernel_rfl) | (rw [if_neg (by decide +kernel)]; exact ⟨rfl, rfl⟩))
    (fun os started H enc _ => FnOpenChecked_lifted os started H enc)

end Go.Proofs.Ytdgeiooacghcoaa
