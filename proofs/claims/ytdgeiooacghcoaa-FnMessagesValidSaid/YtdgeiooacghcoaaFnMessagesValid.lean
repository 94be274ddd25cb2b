/-
  Proved here: messages come in pairs.
-/
import Derived.Test.YtdgeiooacghcoaaHead
import Derived.Test.YtdgeiooacghcoaaDrawM
import Derived.Test.YtdgeiooacghcoaaMsgS
import Derived.Test.YtdgeiooacghcoaaSame
import Derived.Test.YtdgeiooacghcoaaBytes
namespace Go.Proofs.Ytdgeiooacghcoaa
set_option linter.unusedSimpArgs false
set_option linter.unusedVariables false
set_option linter.unusedSectionVars false
open Go Go.RowKit Go.ChangeShapes Go.WideShapes Go.ChangeAt
theorem msgs_even {n : Nat} {zs : List Int} (h : msgsOk n zs = true) : n % 2 = 0 := by
  simp only [msgsOk, Bool.and_eq_true, decide_eq_true_eq] at h
  exact h.1.2
theorem msgs_odd {n : Nat} {zs : List Int} (h : n % 2 = 1) : msgsOk n zs = false := by
  have : ¬ n % 2 = 0 := by omega
  simp [msgsOk, this]
theorem msgs_nil : msgsOk 0 [] = true := by rfl
set_option maxHeartbeats 8000000 in
set_option maxRecDepth 20000 in
theorem L_FnMessagesValid (v : Value) (wA : World) (h : Bytes wA v) : Calls Try.prog 4 #[v] wA fun e w' => e = .returned (.bool true) ∧ Below wA.heap.size wA w' := by
  have HB0 := Lib.hid h
  obtain ⟨A, nc, cap, rfl, hcap, hmax, hA0⟩ := h
  clear hA0
  unfold maxLen at hmax
  by_cases hbig : nc > 1048576
  · obtain ⟨L, HL, S⟩ := st_start wA; have F : True := trivial
    go_enter Try.func4, Try.ntmps4
    go_wp2_with (first | (refine wpList_box rfl S _ _ rfl ?_; intro g w L hM T; clear F S; (try rw [HL.out] at hM); clear HL; (try simp [Act.put, Act.eval, Value.cells, splice] at hM); have HL := Lib.hid hM; clear hM; have S := T; clear T; have F := factsAll HL S; (try simp only [factsOf, cellsFrom, and_true, true_and, Nat.reduceAdd] at F))  | (refine wpList_store_box rfl S _ _ _ rfl 0 _ _ _ _ (atOf HL rfl) rfl _ rfl (by kernel_rfl) rfl rfl ?_; intro w L hM T; clear F S; (try rw [HL.out] at hM); clear HL; (try simp [Act.put, Act.eval, Value.cells, splice] at hM); have HL := Lib.hid hM; clear hM; have S := T; clear T; have F := factsAll HL S; (try simp only [factsOf, cellsFrom, and_true, true_and, Nat.reduceAdd] at F)) | (refine wpList_store_box rfl S _ _ _ rfl 1 _ _ _ _ (atOf HL rfl) rfl _ rfl (by kernel_rfl) rfl rfl ?_; intro w L hM T; clear F S; (try rw [HL.out] at hM); clear HL; (try simp [Act.put, Act.eval, Value.cells, splice] at hM); have HL := Lib.hid hM; clear hM; have S := T; clear T; have F := factsAll HL S; (try simp only [factsOf, cellsFrom, and_true, true_and, Nat.reduceAdd] at F)) | (refine wpList_store_box rfl S _ _ _ rfl 2 _ _ _ _ (atOf HL rfl) rfl _ rfl (by kernel_rfl) rfl rfl ?_; intro w L hM T; clear F S; (try rw [HL.out] at hM); clear HL; (try simp [Act.put, Act.eval, Value.cells, splice] at hM); have HL := Lib.hid hM; clear hM; have S := T; clear T; have F := factsAll HL S; (try simp only [factsOf, cellsFrom, and_true, true_and, Nat.reduceAdd] at F)) | (refine wpList_store_box rfl S _ _ _ rfl 3 _ _ _ _ (atOf HL rfl) rfl _ rfl (by kernel_rfl) rfl rfl ?_; intro w L hM T; clear F S; (try rw [HL.out] at hM); clear HL; (try simp [Act.put, Act.eval, Value.cells, splice] at hM); have HL := Lib.hid hM; clear hM; have S := T; clear T; have F := factsAll HL S; (try simp only [factsOf, cellsFrom, and_true, true_and, Nat.reduceAdd] at F))  )
    go_ret
    exact ⟨rfl, S.below⟩
  obtain ⟨L, HL, S⟩ := st_start wA; have F : True := trivial
  go_enter Try.func4, Try.ntmps4
  go_upto_region 4 with (first | (go_at_call 22; refine (C_DrawMessagesValid _ _ (HB0.out.below S.below)).mono ?_; rintro e w0 ⟨u, n, zs, rfl, hn, hs, hb⟩; replace S := S.grow hb; clear hb))
  have HE := Lib.hid S.below
  obtain ⟨hlen, A', cap', rfl, hcap', hmax', hA'⟩ := id hs
  rw [ints_length] at hlen
  have HS := Lib.hid hs
  have HX := Lib.hid hlen
  have HA := Lib.hid hA'
  unfold maxLen at hmax'
  clear F HL S HB0 hs hlen hA'
  obtain ⟨L, HL, S⟩ := st_start w0
  have F : True := trivial
  have seen : ∀ w : World, Msgs w (.slice none 0 0) 0 [] := fun w => ⟨rfl, Sees.nil_ _ _⟩
  have CN := fun w v h => C_impl_MessagesValid v 0 [] w h
  have CI := fun w v h => C_impl_MessagesValid v n zs w h
  have CS := fun w v h => C_spec_MessagesValid v n zs w h
  rw [msgs_nil] at CN
  cases hf : msgsOk n zs with
  | false =>
    rw [hf] at CI CS
    go_upto_region 7 with (first | (go_at_call 23; refine (CI _ _ (by exact ⟨HX.out, HS.out.at_ S⟩)).mono ?_; rintro e w ⟨rfl, hb⟩; replace S := S.grow hb; clear hb) | (go_at_call 24; refine (CS _ _ (by exact ⟨HX.out, HS.out.at_ S⟩)).mono ?_; rintro e w ⟨rfl, hb⟩; replace S := S.grow hb; clear hb))
    clear CI CS hf HS HX HA
    go_wp2_with (first | (go_at_call 23; refine (CN _ _ (by exact seen _)).mono ?_; rintro e w ⟨rfl, hb⟩; replace S := S.grow hb; clear hb) | (go_at_call 21; refine (C_alive _).mono ?_; rintro e w' ⟨rfl, rfl⟩))
    go_ret
    exact ⟨rfl, HE.out.trans (S.below.mono HE.out.size)⟩
  | true =>
    rw [hf] at CI CS
    have hev := msgs_even hf
    clear hf
    by_cases hn0 : n = 0
    · subst hn0
      go_upto_region 7 with (first | (go_at_call 23; refine (CI _ _ (by exact ⟨HX.out, HS.out.at_ S⟩)).mono ?_; rintro e w ⟨rfl, hb⟩; replace S := S.grow hb; clear hb) | (go_at_call 24; refine (CS _ _ (by exact ⟨HX.out, HS.out.at_ S⟩)).mono ?_; rintro e w ⟨rfl, hb⟩; replace S := S.grow hb; clear hb))
      clear CI CS HS HX HA
      go_wp2_with (first | (go_at_call 23; refine (CN _ _ (by exact seen _)).mono ?_; rintro e w ⟨rfl, hb⟩; replace S := S.grow hb; clear hb) | (go_at_call 21; refine (C_alive _).mono ?_; rintro e w' ⟨rfl, rfl⟩))
      go_ret
      exact ⟨rfl, HE.out.trans (S.below.mono HE.out.size)⟩
    obtain ⟨p, rfl⟩ : ∃ p, n = p + 1 := ⟨n - 1, by omega⟩
    obtain ⟨b, off, rfl, _, hA2⟩ := HA.out (by omega)
    clear hA2 hn0
    have CM := fun w v h => C_impl_MessagesValid v p (zs.take (p * 3)) w h
    rw [msgs_odd (by omega : p % 2 = 1)] at CM
    have HF := Lib.hid (show Sees w0 3 (.slice (some ⟨b, off, none⟩) p cap') p (ints (zs.take (p * 3))) by
      rw [show ints (zs.take (p * 3)) = (ints zs).take (p * 3) from by simp [ints, List.map_take]]
      exact HS.out.front p (by omega))
    have HFX := Lib.hid (show (zs.take (p * 3)).length = p * 3 by rw [List.length_take, HX.out]; omega)
    have hc1 : p ≤ cap' := by omega
    go_upto_region 7 with (first | (go_at_call 23; refine (CI _ _ (by exact ⟨HX.out, HS.out.at_ S⟩)).mono ?_; rintro e w ⟨rfl, hb⟩; replace S := S.grow hb; clear hb) | (go_at_call 24; refine (CS _ _ (by exact ⟨HX.out, HS.out.at_ S⟩)).mono ?_; rintro e w ⟨rfl, hb⟩; replace S := S.grow hb; clear hb))
    clear CI CS HS HX HA
    go_wp2_with (first | (go_at_call 23; refine (CM _ _ (by exact ⟨HFX.out, HF.out.at_ S⟩)).mono ?_; rintro e w ⟨rfl, hb⟩; replace S := S.grow hb; clear hb) | (go_at_call 23; refine (CN _ _ (by exact seen _)).mono ?_; rintro e w ⟨rfl, hb⟩; replace S := S.grow hb; clear hb) | (go_at_call 21; refine (C_alive _).mono ?_; rintro e w' ⟨rfl, rfl⟩))
    go_ret
    exact ⟨rfl, HE.out.trans (S.below.mono HE.out.size)⟩

set_option maxRecDepth 100000 in
theorem FnMessagesValid_lifted (os : Os) (started : os.Started) (H : Type) (enc : TypeId × Value → H) :
    ReturnsInHanded {} Try.checked os 4 .any (Rows.fnMessagesValidSpec.pre6 enc Try.prog Try.f4 Rows.fnMessagesValidRow.domain false) (Rows.fnMessagesValidSpec.post enc Try.prog Try.f4 false true false false) := by
  refine returnsInHanded_of_change (C := Try.checked) Try.ownKnob_ started (by kernel_rfl) Try.func4
    (ChangeSpec.witness6 (enc := enc) (C := Try.checked) false ⟨#[], #[.slice none 0 0], []⟩ 8 (by kernel_rfl) (by kernel_rfl) (by kernel_rfl) (by kernel_rfl)) ?_
  intro W base args ds gs before hval0 hW _ _
  have hval : ∀ (j : Nat) t v, Try.f4.params[j]? = some t → args[j]? = some v → Value.okWide Try.prog W .any base t v := hval0
  have hW' := hW
  obtain ⟨p, q, hA0, hV, rfl, _, _⟩ := hW
  have hA : DataW.TrodAll enc Try.prog W 0 (fun _ => true) true Try.f4.params.toList args.toList ds p := hA0
  rw [Try.params4] at hA hval
  obtain ⟨v0, vs0, d0, ds0, p0, q0, hargs, rfl, rfl, h0, r0⟩ := trodAll_cons hA
  obtain ⟨rfl, rfl, rfl⟩ := trodAll_nil r0
  obtain rfl : args = #[v0] := by cases args; simp_all
  obtain ⟨rfl, rfl⟩ := trodVars_none hV
  clear hA0 hval0
  have s0 := open_bytes (e := 5) (by kernel_rfl) (hval 0 _ v0 rfl rfl) h0
  refine (L_FnMessagesValid _ W s0).mono fun e W' ⟨he, hb⟩ => ⟨_, he, ?_⟩
  exact law_post 4 Try.underlying4 Try.laidOut_ (by kernel_rfl) rfl rfl hW' ⟨rfl, rfl, rfl⟩ hb

theorem FnMessagesValid_holds : Rows.FnMessagesValidSaid :=
  OpenClaim.holds_of_wide 4 Try.f4 rfl rfl rfl rfl rfl rfl rfl ⟨rfl, rfl, rfl, rfl, rfl⟩ rfl rfl rfl rfl rfl (by kernel_rfl) Try.func4 (closed_of (by kernel_rfl))
    (of_decide_eq_true (by kernel_rfl)) (by unfold Func.isWrapper; first | (rw [if_pos (by decide +kernel)]; kernel_rfl) | (rw [if_neg (by decide +kernel)]; exact ⟨rfl, rfl⟩))
    (fun os started H enc _ => FnMessagesValid_lifted os started H enc)

end Go.Proofs.Ytdgeiooacghcoaa
