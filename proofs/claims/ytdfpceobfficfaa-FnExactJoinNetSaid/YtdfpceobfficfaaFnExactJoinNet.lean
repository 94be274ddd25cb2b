/-
  Proved here: the program's JoinNet returns what the reference's returns, for all arguments.
-/
import Derived.Test.YtdfpceobfficfaaHead
import Derived.Test.YtdfpceobfficfaaJnB
import Derived.Test.YtdfpceobfficfaaLaw
namespace Go.Proofs.Ytdfpceobfficfaa
set_option linter.unusedSimpArgs false
set_option linter.unusedVariables false
set_option linter.unusedSectionVars false
open Go Go.RowKit Go.ChangeShapes Go.WideShapes Go.ChangeAt
set_option maxHeartbeats 8000000 in
set_option maxRecDepth 20000 in
theorem L_FnExactJoinNet (v : Value) (ls : List SLy) (wz : World) (h : SeesSLs wz v ls) :
    Calls Try.prog 5 #[v] wz fun e w' => e = .returned (.bool true) ∧ Below wz.heap.size wz w' := by
  have H := Lib.hid h
  obtain ⟨A, cap, rfl, hcap, hmax, _⟩ := h
  obtain ⟨k, hk⟩ : ∃ k, szSLs ls 1048576 = k := ⟨_, rfl⟩
  have HK := Lib.hid hk
  by_cases hneg : k < 0
  · clear hk
    obtain ⟨L, HL, S⟩ := st_start wz; have F : True := trivial
    go_enter Try.func5, Try.ntmps5
    go_wp2_with (first | (refine wpList_box rfl S _ _ rfl ?_; intro g w L hM T; clear F S; (try rw [HL.out] at hM); clear HL; (try simp [Act.put, Act.eval, Value.cells, splice] at hM); have HL := Lib.hid hM; clear hM; have S := T; clear T; have F := factsAll HL S; (try simp only [factsOf, cellsFrom, and_true, true_and, Nat.reduceAdd] at F))  | (refine wpList_store_box rfl S _ _ _ rfl 0 _ _ _ _ (atOf HL rfl) rfl _ rfl (by kernel_rfl) rfl rfl ?_; intro w L hM T; clear F S; (try rw [HL.out] at hM); clear HL; (try simp [Act.put, Act.eval, Value.cells, splice] at hM); have HL := Lib.hid hM; clear hM; have S := T; clear T; have F := factsAll HL S; (try simp only [factsOf, cellsFrom, and_true, true_and, Nat.reduceAdd] at F)) | (refine wpList_store_box rfl S _ _ _ rfl 1 _ _ _ _ (atOf HL rfl) rfl _ rfl (by kernel_rfl) rfl rfl ?_; intro w L hM T; clear F S; (try rw [HL.out] at hM); clear HL; (try simp [Act.put, Act.eval, Value.cells, splice] at hM); have HL := Lib.hid hM; clear hM; have S := T; clear T; have F := factsAll HL S; (try simp only [factsOf, cellsFrom, and_true, true_and, Nat.reduceAdd] at F)) | (refine wpList_store_box rfl S _ _ _ rfl 2 _ _ _ _ (atOf HL rfl) rfl _ rfl (by kernel_rfl) rfl rfl ?_; intro w L hM T; clear F S; (try rw [HL.out] at hM); clear HL; (try simp [Act.put, Act.eval, Value.cells, splice] at hM); have HL := Lib.hid hM; clear hM; have S := T; clear T; have F := factsAll HL S; (try simp only [factsOf, cellsFrom, and_true, true_and, Nat.reduceAdd] at F)) | (refine wpList_store_box rfl S _ _ _ rfl 3 _ _ _ _ (atOf HL rfl) rfl _ rfl (by kernel_rfl) rfl rfl ?_; intro w L hM T; clear F S; (try rw [HL.out] at hM); clear HL; (try simp [Act.put, Act.eval, Value.cells, splice] at hM); have HL := Lib.hid hM; clear hM; have S := T; clear T; have F := factsAll HL S; (try simp only [factsOf, cellsFrom, and_true, true_and, Nat.reduceAdd] at F))  | (go_at_call 18; refine (C_szSharedLayerS _ ls _ _ _ (H.out.at_ S) ⟨by omega, by omega⟩ HK.out).mono ?_; rintro e w ⟨rfl, hb⟩; replace S := S.grow hb; clear hb))
    go_ret
    exact ⟨rfl, S.below⟩
  obtain ⟨hn1', hx1⟩ := szSLs_each (ls := ls) (k := 1048576) (by show 0 ≤ szSLs ls 1048576; omega)
  have hn1 : ls.length ≤ 1048576 := by omega
  have HSM := Lib.hid hx1
  have HLE : Hid (∀ l ∈ ls, l.ws.length ≤ 1048576) := Lib.hid fun l hl => (hx1 l hl).1
  have HSZ : Hid (0 ≤ szSLsFrom ls (1048576 - ls.length)) := Lib.hid (by
    unfold szSLs at hk
    split at hk
    · omega
    · omega)
  obtain ⟨b, js, hj⟩ : ∃ b js, joinRes ls = (b, js) := ⟨_, _, rfl⟩
  have HJ := Lib.hid hj
  have HJF := Lib.hid (joinRes_few hj)
  clear hk hx1 hn1' hj
  obtain ⟨L, HL, S⟩ := st_start wz; have F : True := trivial
  go_enter Try.func5, Try.ntmps5
  go_upto_region 5 with (first | (go_at_call 18; refine (C_szSharedLayerS _ ls _ _ _ (H.out.at_ S) ⟨by omega, by omega⟩ HK.out).mono ?_; rintro e w ⟨rfl, hb⟩; replace S := S.grow hb; clear hb))
  go_upto_region 6 with (first | (go_at_call 19; refine (C_toSharedLayerS _ ls _ (H.out.at_ S) hn1 HSM.out).mono ?_; rintro e w ⟨u1, q1, rfl, hq, T0⟩; have HS1 := Lib.hid (hq ▸ sees_sls T0 (fun e he => he) : SeesSLs w u1 ls); replace S := S.grow T0.below; clear T0 hq) | (go_at_call 10; refine (C_spec_JoinNet _ ls b js _ HS1.out hn1 HSM.out HJ.out).mono ?_; rintro e w0 ⟨uW, qW, rfl, hq, T0⟩; have HW := Lib.hid (hq ▸ sees_ls T0 (fun e he => he) : SeesLs w0 uW js); have HBB := Lib.hid (S.below.trans (T0.below.mono S.below.size)); replace H := Lib.hid (H.out.below HBB.out); clear S HL F T0 hq HS1; obtain ⟨L, HL, S⟩ := st_start w0; have F : True := trivial))
  go_upto_region 7 with (first | (go_at_call 19; refine (C_toSharedLayerS _ ls _ (H.out.at_ S) hn1 HSM.out).mono ?_; rintro e w ⟨ux, px, rfl, hq, T0⟩; have HPX := Lib.hid hq; have T := S.call T0; rw [HL.out, List.append_nil] at T; clear S HL T0 hq; have S := T; clear T; obtain ⟨L, hM, T⟩ := st_name S; clear S; have S := T; clear T; have HL := Lib.hid hM; clear hM; have F := factsAll HL S; (try simp only [factsOf, cellsFrom, and_true, true_and, Nat.reduceAdd] at F)))
  go_upto_region 8 with (first | (go_at_call 9; refine (RB.C_impl_JoinNet _ ls b js _ (HPX.out ▸ sees_sls S (by rw [HL.out]; exact fun e he => he) : SeesSLs _ _ ls) HLE.out HJ.out).mono ?_; rintro e w ⟨ug, qg, rfl, hq, T0⟩; have HQG := Lib.hid hq; have T := S.call T0; rw [HL.out] at T; clear S HL T0 hq; have S := T; clear T; obtain ⟨L, hM, T⟩ := st_name S; clear S; have S := T; clear T; have HL := Lib.hid hM; clear hM; have F := factsAll HL S; (try simp only [factsOf, cellsFrom, and_true, true_and, Nat.reduceAdd] at F)))
  go_upto_region 10 with (first | (go_at_call 20; refine (C_eqLayerS _ _ js _ (HQG.out ▸ sees_ls S (by rw [HL.out]; exact fun e he => List.mem_append_left _ he) : SeesLs _ _ js) (HW.out.at_ S)).mono ?_; rintro e w ⟨rfl, hb⟩; replace S := S.grow hb; clear hb))
  go_upto_region 13 with (first | (go_at_call 19; refine (C_toSharedLayerS _ ls _ (H.out.at_ S) hn1 HSM.out).mono ?_; rintro e w ⟨u1, q1, rfl, hq, T0⟩; have HS1 := Lib.hid (hq ▸ sees_sls T0 (fun e he => he) : SeesSLs w u1 ls); replace S := S.grow T0.below; clear T0 hq) | (go_at_call 21; refine (C_eqSharedLayerS _ _ ls _ (HPX.out ▸ sees_sls S (by rw [HL.out]; exact fun e he => List.mem_append_right _ he) : SeesSLs _ _ ls) HS1.out).mono ?_; rintro e w ⟨rfl, hb⟩; replace S := S.grow hb; clear hb))
  clear HS1
  have hez := endSLs_sz px 1 (1048576 - ls.length) (by omega) (by rw [HPX.out]; exact HSZ.out)
  have hl0 : px.length = ls.length := by rw [← HPX.out, List.length_map]
  have hez1 := endSLs_le px 1
  obtain ⟨kz, hkz⟩ : ∃ kz, endSLs px 1 = kz := ⟨_, rfl⟩
  rw [hkz] at hez hez1
  have hkz1 : 1 ≤ kz := hez1
  have hkz2 : kz ≤ 10000000 := by omega
  rw [HL.out] at S
  have T1 := S.perm List.perm_append_comm
  have CM := C_markSharedLayerS _ _ px 1 w0 _ T1 (by omega) (by omega)
  rw [hkz] at CM
  clear hez hez1 hl0 S HL F T1 hkz
  go_upto_region 14 with (go_at_call 22; refine CM.mono ?_; rintro e w ⟨rfl, T0⟩)
  clear CM
  have S := T0.sub (List.sublist_append_right _ _)
  clear T0
  obtain ⟨L, hM, T⟩ := st_name S; clear S; have S := T; clear T; have HL := Lib.hid hM; clear hM; have F := factsAll HL S; (try simp only [factsOf, cellsFrom, and_true, true_and, Nat.reduceAdd] at F)
  go_upto_region 17 with (first | (go_at_call 20; refine (C_eqLayerS _ _ js _ (HQG.out ▸ sees_ls S (by rw [HL.out]; exact fun e he => he) : SeesLs _ _ js) (HW.out.at_ S)).mono ?_; rintro e w ⟨rfl, hb⟩; replace S := S.grow hb; clear hb))
  have hez := endLs_few HQG.out HJF.out.1 HJF.out.2
  have hez1 := endLs_le qg 1
  obtain ⟨kg, hkg⟩ : ∃ kg, endLs qg 1 = kg := ⟨_, rfl⟩
  rw [hkg] at hez hez1
  rw [HL.out] at S
  have CM := C_markLayerS [] _ qg 1 w0 _ (by rw [List.append_nil]; exact S) (by omega) (by omega)
  have CH := fun w h => C_heldLayerS ug qg 1 w h (by omega) (by omega)
  rw [hkg] at CM CH
  clear S HL F hkg
  go_upto_region 18 with (go_at_call 23; refine CM.mono ?_; rintro e w ⟨rfl, T0⟩)
  clear CM
  rw [List.append_nil] at T0
  have S := T0
  clear T0
  obtain ⟨L, hM, T⟩ := st_name S; clear S; have S := T; clear T; have HL := Lib.hid hM; clear hM; have F := factsAll HL S; (try simp only [factsOf, cellsFrom, and_true, true_and, Nat.reduceAdd] at F)
  go_upto_region 24 with (first | (go_at_call 24; refine (CH _ (sees_ls S (by rw [HL.out]; exact fun e he => he))).mono ?_; rintro e w ⟨rfl, hb⟩; replace S := S.grow hb; clear hb))
  go_upto_region 25 with (first | (go_at_call 19; refine (C_toSharedLayerS _ ls _ (H.out.at_ S) hn1 HSM.out).mono ?_; rintro e w ⟨u1, q1, rfl, hq, T0⟩; have HS1 := Lib.hid (hq ▸ sees_sls T0 (fun e he => he) : SeesSLs w u1 ls); replace S := S.grow T0.below; clear T0 hq) | (go_at_call 9; refine (RB.C_impl_JoinNet _ ls b js _ HS1.out HLE.out HJ.out).mono ?_; rintro e w ⟨uh, qh, rfl, hq, T0⟩; have HQH := Lib.hid hq; have T := S.call T0; rw [HL.out] at T; clear S HL T0 hq; have S := T; clear T; obtain ⟨L, hM, T⟩ := st_name S; clear S; have S := T; clear T; have HL := Lib.hid hM; clear hM; have F := factsAll HL S; (try simp only [factsOf, cellsFrom, and_true, true_and, Nat.reduceAdd] at F)))
  clear HS1
  go_wp2_with (first | (go_at_call 20; refine (C_eqLayerS _ _ js _ (HQH.out ▸ sees_ls S (by rw [HL.out]; exact fun e he => List.mem_append_left _ he) : SeesLs _ _ js) (HW.out.at_ S)).mono ?_; rintro e w ⟨rfl, hb⟩; replace S := S.grow hb; clear hb) | (go_at_call 24; refine (CH _ (sees_ls S (by rw [HL.out]; exact fun e he => List.mem_append_right _ he))).mono ?_; rintro e w ⟨rfl, hb⟩; replace S := S.grow hb; clear hb))
  go_ret
  exact ⟨rfl, HBB.out.trans (S.below.mono HBB.out.size)⟩

set_option maxRecDepth 100000 in
theorem FnExactJoinNet_lifted (os : Os) (started : os.Started) (H : Type) (enc : TypeId × Value → H) :
    ReturnsInHanded {} Try.checked os 5 .any (Rows.fnExactJoinNetSpec.pre6 enc Try.prog Try.f5 Rows.fnExactJoinNetRow.domain false) (Rows.fnExactJoinNetSpec.post enc Try.prog Try.f5 false true false false) := by
  refine returnsInHanded_of_change (C := Try.checked) Try.ownKnob_ started (by kernel_rfl) Try.func5
    (ChangeSpec.witness6 (enc := enc) (C := Try.checked) false ⟨#[], #[.slice none 0 0], []⟩ 8 (by kernel_rfl) (by kernel_rfl) (by kernel_rfl) (by kernel_rfl)) ?_
  intro W base args ds gs before hval0 hW _ _
  have hval : ∀ (j : Nat) t v, Try.f5.params[j]? = some t → args[j]? = some v → Value.okWide Try.prog W .any base t v := hval0
  have hW' := hW
  obtain ⟨p, q, hA0, hV, rfl, _, _⟩ := hW
  have hA : DataW.TrodAll enc Try.prog W 0 (fun _ => true) true Try.f5.params.toList args.toList ds p := hA0
  rw [Try.params5] at hA hval
  obtain ⟨v0, vs0, d0, ds0, p0, q0, hargs, rfl, rfl, h0, r0⟩ := trodAll_cons hA
  obtain ⟨rfl, rfl, rfl⟩ := trodAll_nil r0
  obtain rfl : args = #[v0] := by cases args; simp_all
  obtain ⟨rfl, rfl⟩ := trodVars_none hV
  clear hA0 hval0
  obtain ⟨ls0, s0⟩ := open_sls (e := 88) (by kernel_rfl) (hval 0 _ v0 rfl rfl) h0
  refine (L_FnExactJoinNet _ ls0 W s0).mono fun e W' ⟨he, hb⟩ => ⟨_, he, ?_⟩
  exact law_post 4 Try.underlying4 Try.laidOut_ (by kernel_rfl) rfl rfl hW' ⟨rfl, rfl, rfl⟩ hb

theorem FnExactJoinNet_holds : Rows.FnExactJoinNetSaid :=
  OpenClaim.holds_of_wide 5 Try.f5 rfl rfl rfl rfl rfl rfl rfl ⟨rfl, rfl, rfl, rfl, rfl⟩ rfl rfl rfl rfl rfl (by kernel_rfl) Try.func5 (closed_of (by kernel_rfl))
    (of_decide_eq_true (by kernel_rfl)) (by unfold Func.isWrapper; first | (rw [if_pos (by decide +kernel)]; kernel_rfl) | (rw [if_neg (by decide +kernel)]; exact ⟨rfl, rfl⟩))
    (fun os started H enc _ => FnExactJoinNet_lifted os started H enc)

end Go.Proofs.Ytdfpceobfficfaa
