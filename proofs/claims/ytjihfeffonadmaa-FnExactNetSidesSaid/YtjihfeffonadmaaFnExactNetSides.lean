/-
  Proved here: the program's NetSides returns what the reference's returns, for all arguments.
-/
import Derived.Test.YtjihfeffonadmaaHead
import Derived.Test.YtjihfeffonadmaaLyN
namespace Go.Proofs.Ytjihfeffonadmaa
set_option linter.unusedSimpArgs false
set_option linter.unusedVariables false
set_option linter.unusedSectionVars false
open Go Go.RowKit Go.ChangeShapes Go.WideShapes Go.ChangeAt
set_option maxHeartbeats 8000000 in
set_option maxRecDepth 20000 in
theorem L_FnExactNetSides (v : Value) (ls : List Ly) (r c : Int) (w0 : World) (h : SeesLs w0 v ls) :
    Calls Try.prog 7 #[v, .int .i64 r, .int .i64 c] w0 fun e w' => e = .returned (.bool true) ∧ Below w0.heap.size w0 w' := by
  have H := Lib.hid h
  obtain ⟨A, cap, rfl, hcap, hmax, _⟩ := h
  obtain ⟨k, hk⟩ : ∃ k, szLs ls 1048576 = k := ⟨_, rfl⟩
  have HK := Lib.hid hk
  by_cases hneg : k < 0
  · clear hk
    obtain ⟨L, HL, S⟩ := st_start w0; have F : True := trivial
    go_enter Try.func7, Try.ntmps7
    go_wp2_with (first | (refine wpList_box rfl S _ _ rfl ?_; intro g w L hM T; clear F S; (try rw [HL.out] at hM); clear HL; (try simp [Act.put, Act.eval, Value.cells, splice] at hM); have HL := Lib.hid hM; clear hM; have S := T; clear T; have F := factsAll HL S; (try simp only [factsOf, cellsFrom, and_true, true_and, Nat.reduceAdd] at F))  | (refine wpList_store_box rfl S _ _ _ rfl 0 _ _ _ _ (atOf HL rfl) rfl _ rfl (by kernel_rfl) rfl rfl ?_; intro w L hM T; clear F S; (try rw [HL.out] at hM); clear HL; (try simp [Act.put, Act.eval, Value.cells, splice] at hM); have HL := Lib.hid hM; clear hM; have S := T; clear T; have F := factsAll HL S; (try simp only [factsOf, cellsFrom, and_true, true_and, Nat.reduceAdd] at F)) | (refine wpList_store_box rfl S _ _ _ rfl 1 _ _ _ _ (atOf HL rfl) rfl _ rfl (by kernel_rfl) rfl rfl ?_; intro w L hM T; clear F S; (try rw [HL.out] at hM); clear HL; (try simp [Act.put, Act.eval, Value.cells, splice] at hM); have HL := Lib.hid hM; clear hM; have S := T; clear T; have F := factsAll HL S; (try simp only [factsOf, cellsFrom, and_true, true_and, Nat.reduceAdd] at F)) | (refine wpList_store_box rfl S _ _ _ rfl 2 _ _ _ _ (atOf HL rfl) rfl _ rfl (by kernel_rfl) rfl rfl ?_; intro w L hM T; clear F S; (try rw [HL.out] at hM); clear HL; (try simp [Act.put, Act.eval, Value.cells, splice] at hM); have HL := Lib.hid hM; clear hM; have S := T; clear T; have F := factsAll HL S; (try simp only [factsOf, cellsFrom, and_true, true_and, Nat.reduceAdd] at F)) | (refine wpList_store_box rfl S _ _ _ rfl 3 _ _ _ _ (atOf HL rfl) rfl _ rfl (by kernel_rfl) rfl rfl ?_; intro w L hM T; clear F S; (try rw [HL.out] at hM); clear HL; (try simp [Act.put, Act.eval, Value.cells, splice] at hM); have HL := Lib.hid hM; clear hM; have S := T; clear T; have F := factsAll HL S; (try simp only [factsOf, cellsFrom, and_true, true_and, Nat.reduceAdd] at F))  | (go_at_call 34; refine (C_szLayerS _ ls _ _ _ (H.out.at_ S) ⟨by omega, by omega⟩ HK.out).mono ?_; rintro e w ⟨rfl, hb⟩; replace S := S.grow hb; clear hb))
    go_ret
    exact ⟨rfl, S.below⟩
  obtain ⟨hn, hx⟩ := szLs_each (ls := ls) (k := 1048576) (by show 0 ≤ szLs ls 1048576; omega)
  have HX := Lib.hid hx
  clear hk hx
  obtain ⟨z, hz⟩ : ∃ z, netSides ls r c = z := ⟨_, rfl⟩
  have HZ := Lib.hid hz
  have HBB := Lib.hid (Below.refl w0.heap.size w0)
  clear hz
  obtain ⟨a, b, o, hres⟩ : ∃ (a b : Int) (o : Bool), sidesRes z = .tuple #[.int .i64 a, .int .i64 b, .bool o] := by
    cases z with
    | none => exact ⟨0, 0, false, rfl⟩
    | some x => exact ⟨x.1, x.2, true, rfl⟩
  have CS := fun v w h => C_spec_NetSides v ls r c z w h HZ.out
  have CI := fun v w h => C_impl_NetSides v ls r c z w h HZ.out
  rw [hres] at CS CI
  clear hres
  obtain ⟨L, HL, S⟩ := st_start w0; have F : True := trivial
  go_enter Try.func7, Try.ntmps7
  go_upto_region 6 with (first | (go_at_call 34; refine (C_szLayerS _ ls _ _ _ (H.out.at_ S) ⟨by omega, by omega⟩ HK.out).mono ?_; rintro e w ⟨rfl, hb⟩; replace S := S.grow hb; clear hb) | (go_at_call 35; refine (C_toLayerS _ ls _ (H.out.at_ S) hn HX.out).mono ?_; rintro e w1 ⟨u1, qs, rfl, hqs, T0⟩; have HS1 := Lib.hid (hqs ▸ sees_ls T0 (fun e he => he) : SeesLs w1 u1 ls); have hb := S.below.trans (T0.below.mono S.below.size); replace H := Lib.hid (H.out.below hb); (try replace HS2' := Lib.hid (HS2'.out.below hb)); replace HBB := Lib.hid (HBB.out.trans (hb.mono HBB.out.size)); clear S HL F T0 hqs hb; obtain ⟨L, HL, S⟩ := st_start w1; have F : True := trivial) | (go_at_call 33; refine (CS _ _ (HS1.out.at_ S)).mono ?_; rintro e w ⟨rfl, hb⟩; replace S := S.grow hb; clear hb))
  go_upto_region 7 with (first | (go_at_call 35; refine (C_toLayerS _ ls _ (H.out.at_ S) hn HX.out).mono ?_; rintro e w2 ⟨u2, qs, rfl, hqs, T0⟩; have HS2 := Lib.hid (hqs ▸ sees_ls T0 (fun e he => he) : SeesLs w2 u2 ls); have hb := S.below.trans (T0.below.mono S.below.size); replace H := Lib.hid (H.out.below hb); (try replace HS2' := Lib.hid (HS2'.out.below hb)); replace HBB := Lib.hid (HBB.out.trans (hb.mono HBB.out.size)); clear S HL F T0 hqs hb; obtain ⟨L, HL, S⟩ := st_start w2; have F : True := trivial))
  have HS2' := HS2
  clear HS2 HS1
  go_upto_region 8 with (first | (go_at_call 32; refine (CI _ _ (HS2'.out.at_ S)).mono ?_; rintro e w ⟨rfl, hb⟩; replace S := S.grow hb; clear hb))
  go_upto_region 10 with fail
  go_wp2_with (first | (refine wpList_box rfl S _ _ rfl ?_; intro g w L hM T; clear F S; (try rw [HL.out] at hM); clear HL; (try simp [Act.put, Act.eval, Value.cells, splice] at hM); have HL := Lib.hid hM; clear hM; have S := T; clear T; have F := factsAll HL S; (try simp only [factsOf, cellsFrom, and_true, true_and, Nat.reduceAdd] at F))  | (refine wpList_store_box rfl S _ _ _ rfl 0 _ _ _ _ (atOf HL rfl) rfl _ rfl (by kernel_rfl) rfl rfl ?_; intro w L hM T; clear F S; (try rw [HL.out] at hM); clear HL; (try simp [Act.put, Act.eval, Value.cells, splice] at hM); have HL := Lib.hid hM; clear hM; have S := T; clear T; have F := factsAll HL S; (try simp only [factsOf, cellsFrom, and_true, true_and, Nat.reduceAdd] at F)) | (refine wpList_store_box rfl S _ _ _ rfl 1 _ _ _ _ (atOf HL rfl) rfl _ rfl (by kernel_rfl) rfl rfl ?_; intro w L hM T; clear F S; (try rw [HL.out] at hM); clear HL; (try simp [Act.put, Act.eval, Value.cells, splice] at hM); have HL := Lib.hid hM; clear hM; have S := T; clear T; have F := factsAll HL S; (try simp only [factsOf, cellsFrom, and_true, true_and, Nat.reduceAdd] at F)) | (refine wpList_store_box rfl S _ _ _ rfl 2 _ _ _ _ (atOf HL rfl) rfl _ rfl (by kernel_rfl) rfl rfl ?_; intro w L hM T; clear F S; (try rw [HL.out] at hM); clear HL; (try simp [Act.put, Act.eval, Value.cells, splice] at hM); have HL := Lib.hid hM; clear hM; have S := T; clear T; have F := factsAll HL S; (try simp only [factsOf, cellsFrom, and_true, true_and, Nat.reduceAdd] at F)) | (refine wpList_store_box rfl S _ _ _ rfl 3 _ _ _ _ (atOf HL rfl) rfl _ rfl (by kernel_rfl) rfl rfl ?_; intro w L hM T; clear F S; (try rw [HL.out] at hM); clear HL; (try simp [Act.put, Act.eval, Value.cells, splice] at hM); have HL := Lib.hid hM; clear hM; have S := T; clear T; have F := factsAll HL S; (try simp only [factsOf, cellsFrom, and_true, true_and, Nat.reduceAdd] at F))  | (go_at_call 35; refine (C_toLayerS _ ls _ (H.out.at_ S) hn HX.out).mono ?_; rintro e w3 ⟨u3, qs, rfl, hqs, T0⟩; have HS3 := Lib.hid (hqs ▸ sees_ls T0 (fun e he => he) : SeesLs w3 u3 ls); have hb := S.below.trans (T0.below.mono S.below.size); replace H := Lib.hid (H.out.below hb); (try replace HS2' := Lib.hid (HS2'.out.below hb)); replace HBB := Lib.hid (HBB.out.trans (hb.mono HBB.out.size)); clear S HL F T0 hqs hb; obtain ⟨L, HL, S⟩ := st_start w3; have F : True := trivial) | (go_at_call 36; refine (C_eqLayerS _ _ ls _ (HS2'.out.at_ S) (HS3.out.at_ S)).mono ?_; rintro e w ⟨rfl, hb⟩; replace S := S.grow hb; clear hb))
  go_ret
  exact ⟨rfl, HBB.out.trans (S.below.mono HBB.out.size)⟩

set_option maxRecDepth 100000 in
theorem FnExactNetSides_lifted (os : Os) (started : os.Started) (H : Type) (enc : TypeId × Value → H) :
    ReturnsInHanded {} Try.checked os 7 .any (Rows.fnExactNetSidesSpec.pre6 enc Try.prog Try.f7 Rows.fnExactNetSidesRow.domain false) (Rows.fnExactNetSidesSpec.post enc Try.prog Try.f7 false true false false) := by
  refine returnsInHanded_of_change (C := Try.checked) Try.ownKnob_ started (by kernel_rfl) Try.func7
    (ChangeSpec.witness6 (enc := enc) (C := Try.checked) false ⟨#[], #[.slice none 0 0, .int .i64 0, .int .i64 0], []⟩ 8 (by kernel_rfl) (by kernel_rfl) (by kernel_rfl) (by kernel_rfl)) ?_
  intro W base args ds gs before hval0 hW _ _
  have hval : ∀ (j : Nat) t v, Try.f7.params[j]? = some t → args[j]? = some v → Value.okWide Try.prog W .any base t v := hval0
  have hW' := hW
  obtain ⟨p, q, hA0, hV, rfl, _, _⟩ := hW
  have hA : DataW.TrodAll enc Try.prog W 0 (fun _ => true) true Try.f7.params.toList args.toList ds p := hA0
  rw [Try.params7] at hA hval
  obtain ⟨v0, vs0, d0, ds0, p0, q0, hargs, rfl, rfl, h0, r0⟩ := trodAll_cons hA
  obtain ⟨v1, vs1, d1, ds1, p1, q1, rfl, rfl, rfl, h1, r1⟩ := trodAll_cons r0
  obtain ⟨v2, vs2, d2, ds2, p2, q2, rfl, rfl, rfl, h2, r2⟩ := trodAll_cons r1
  obtain ⟨rfl, rfl, rfl⟩ := trodAll_nil r2
  obtain rfl : args = #[v0, v1, v2] := by cases args; simp_all
  obtain ⟨rfl, rfl⟩ := trodVars_none hV
  clear hA0 hval0
  obtain ⟨ls0, s0⟩ := open_ls (e := 108) (by kernel_rfl) (hval 0 _ v0 rfl rfl) h0
  obtain ⟨x1, rfl, rfl, rfl, w1⟩ := open_int Try.underlying3 (hval 1 _ v1 rfl rfl) h1
  obtain ⟨x2, rfl, rfl, rfl, w2⟩ := open_int Try.underlying3 (hval 2 _ v2 rfl rfl) h2
  refine (L_FnExactNetSides _ ls0 x1 x2 W s0).mono fun e W' ⟨he, hb⟩ => ⟨_, he, ?_⟩
  exact law_post 4 Try.underlying4 Try.laidOut_ (by kernel_rfl) rfl rfl hW' ⟨rfl, rfl, rfl⟩ hb

theorem FnExactNetSides_holds : Rows.FnExactNetSidesSaid :=
  OpenClaim.holds_of_wide 7 Try.f7 rfl rfl rfl rfl rfl rfl rfl ⟨rfl, rfl, rfl, rfl, rfl⟩ rfl rfl rfl rfl rfl (by kernel_rfl) Try.func7 (closed_of (by kernel_rfl))
    (of_decide_eq_true (by kernel_rfl)) (by unfold Func.isWrapper; first | (rw [if_pos (by decide +kernel)]; kernel_rfl) | (rw [if_neg (by decide +kernel)]; exact ⟨rfl, rfl⟩))
    (fun os started H enc _ => FnExactNetSides_lifted os started H enc)

end Go.Proofs.Ytjihfeffonadmaa
