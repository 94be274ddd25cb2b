/-
  Proved here: results do not depend on the dealer: with another seed what is shared is the same.
-/
import Derived.Test.YtjgfjfjboimgdaaGreatY43
import Derived.Test.YtjgfjfjboimgdaaGreatY45
import Derived.Test.YtjgfjfjboimgdaaGreatY49
import Derived.Test.YtjgfjfjboimgdaaGreatY62
namespace Go.Proofs.YtjgfjfjboimgdaaGreat
set_option linter.unusedSimpArgs false
set_option linter.unusedVariables false
set_option linter.unusedSectionVars false
section
open Go Go.RowKit Go.ChangeShapes Go.WideShapes Go.ChangeAt
section
attribute [local irreducible] wpList Oper.wp Calls
set_option maxHeartbeats 40000000 in
set_option maxRecDepth 20000 in
theorem L_FnRunSeeds (v : Value) (w0 : World) (h : Bytes w0 v) : Calls Tryz.prog 6 #[v] w0 fun e w' => e = .returned (.bool true) ∧ Below w0.heap.size w0 w' := by
  have HB0 := Lib.hid h
  obtain ⟨A, n, cap, rfl, hcap, hmax, _⟩ := h
  unfold maxLen at hmax
  by_cases hbig : n > 1048576
  · obtain ⟨L, HL, S⟩ := st_start w0; have F : True := trivial
    go_enter Tryz.func6, Tryz.ntmps6
    go_wp2_with (first | (refine qbx HL S ?_; clear F S HL; intro g w L HL S F)  | (refine qst HL S 0 ?_; clear F S HL; intro w L HL S F) | (refine qst HL S 1 ?_; clear F S HL; intro w L HL S F) | (refine qst HL S 2 ?_; clear F S HL; intro w L HL S F) | (refine qst HL S 3 ?_; clear F S HL; intro w L HL S F)  )
    go_ret
    exact ⟨rfl, S.below⟩
  obtain ⟨L, HL, S⟩ := st_start w0; have F : True := trivial
  go_enter Tryz.func6, Tryz.ntmps6
  go_upto_region 4 with (first | (go_at_call 30; refine (C_DrawRunShared _ _ (HB0.out.below S.below)).mono ?_; rintro e w0 ⟨ls, x, s, v, u, t, rfl, hf, hxl, hs, hsh, hu, hv, hb⟩; have HBB := Lib.hid (S.below.trans (hb.mono S.below.size)); clear S HL F hb; have HS := Lib.hid hs; have HU := Lib.hid hu; have HV := Lib.hid hv; obtain ⟨B0, cb0, rfl, hcb0, hmb0, _⟩ := hs; obtain ⟨_, B2, cb2, rfl, hcb2, hmb2, _⟩ := hu; obtain ⟨_, B3, cb3, rfl, hcb3, hmb3, _⟩ := hv; obtain ⟨L, HL, S⟩ := st_start w0; have F : True := trivial) | (refine qal HL S zSMx ?_; clear F S HL; intro gx w L HL S F) | (refine qst HL S 0 ?_; clear F S HL; intro w L HL S F))
  obtain ⟨hf1, hf2⟩ := hf
  obtain ⟨hx1, hx2⟩ := hxl
  obtain ⟨z, hz⟩ : ∃ z, runS ls x s = z := ⟨_, rfl⟩
  have hsm : ∀ l ∈ ls, SLySmall 1048576 l := fun l hl => ⟨by have := (hf2 l hl).1; omega, fun m hm => by have := (hf2 l hl).2 m hm; exact ⟨by omega, by omega⟩⟩
  have HLE : Hid (∀ l ∈ ls, l.ws.length ≤ 1048576) := Lib.hid fun l hl => (hsm l hl).1
  have CI := fun t u v w ht hu hv => C_impl_RunShared ls x s t u v z w ht HLE.out hu hv hz
  have CS := fun t u v w ht hu hv => C_spec_RunShared ls x s t u v z w ht (by omega) hsm hu hv (by omega) (by omega) hz
  unfold MakesScl at CI CS
  (try dsimp only at CI CS)
  have HZ := Lib.hid hz
  have HF := Lib.hid (And.intro hf1 hf2)
  clear hz hf1 hf2 hsm
  go_upto_region 5 with (first | refine qLb6 S ?_ | (go_at_call 31; refine (CI _ _ _ _ (HS.out.at_ S) (HU.out.at_ S) (HV.out.at_ S)).mono ?_; rintro e w ⟨u1, v1, o1, rfl, T0⟩; have hX := qcl HL S T0; clear F S HL T0; obtain ⟨L, HL, S, F⟩ := hX; obtain ⟨O1, e1, rfl, heo1, hmo1⟩ := qSl HL S 0; obtain ⟨B1, d1, rfl, hdb1, hmb1⟩ := qSl HL S 1; obtain ⟨A1, c1, rfl, hca1, hma1⟩ := qSl HL S 2) | (refine qal HL S zSMx ?_; clear F S HL; intro gs w L HL S F) | (refine qst HL S 0 ?_; clear F S HL; intro w L HL S F))
  go_upto_region 6 with (first | refine qLb6 S ?_ | (go_at_call 32; refine (CS _ _ _ _ (HS.out.at_ S) (HU.out.at_ S) (HV.out.at_ S)).mono ?_; rintro e w ⟨u7, v7, o7, rfl, T0⟩; have hX := qcl HL S T0; clear F S HL T0; obtain ⟨L, HL, S, F⟩ := hX; obtain ⟨O7, e7, rfl, heo7, hmo7⟩ := qSl HL S 0; obtain ⟨B7, d7, rfl, hdb7, hmb7⟩ := qSl HL S 1; obtain ⟨A7, c7, rfl, hca7, hma7⟩ := qSl HL S 2) | (refine qal HL S zSMx ?_; clear F S HL; intro gt w L HL S F) | (refine qst HL S 0 ?_; clear F S HL; intro w L HL S F))
  clear CI CS
  go_upto_region 8 with (first | refine qLb6 S ?_ | (go_at_call 24; refine qGr S (C_sameSsL _ _ _ _ _ _ _ _ _ _ _ (by exact (Sees.row S qAt)) (by exact (Sees.row S qAt)) (by exact (Sees.row S qAt)) (by exact (Sees.row S qAt))) ?_; clear S; intro w S) | (go_at_call 25; refine qGr S (C_sameInts _ _ _ _ (by exact (Sees.row S qAt)) (by exact (Sees.row S qAt))) ?_; clear S; intro w S))
  cases hok : runOk ls x s with
  | false =>
    have hz := HZ.out
    rw [runS_not hok] at hz
    have e1 : z.last = 0 := by rw [← hz]
    have e2 : z.m.a.r = 0 := by rw [← hz]; rfl
    have e3 : z.os.length = 0 := by rw [← hz]; rfl
    have e4 : (z.last == 0) = true := by rw [e1]; rfl
    clear hz hok
    go_wp2_with (first | (go_at_call 26; refine qPu (C_alive _) ?_))
    go_ret
    exact ⟨rfl, HBB.out.trans (S.below.mono HBB.out.size)⟩
  | true =>
  have hlast : (z.last == 0) = false ∧ ¬ z.last = 0 := by
    have h1 := (runS_law hok).seed
    rw [HZ.out] at h1
    have h2 := seedOk_bd h1
    exact ⟨by rw [beq_eq_false_iff_ne]; omega, by omega⟩
  obtain ⟨hl1, hl2⟩ := hlast
  have hs := (runOk_parts hok).2.1
  have hsb := seedOk_bd hs
  obtain ⟨s', hs'⟩ : ∃ s' : Int, 1 + (s + (n : Int)) % 1000 = s' := ⟨_, rfl⟩
  have hmod : 0 ≤ (s + (n : Int)) % 1000 ∧ (s + (n : Int)) % 1000 < 1000 := by omega
  have hok' : seedOk s' = true := by
    unfold seedOk
    simp only [Bool.and_eq_true, decide_eq_true_eq]
    omega
  have hseed := runS_seed hok hok'
  rw [HZ.out] at hseed
  obtain ⟨z', hz'⟩ : ∃ z', runS ls x s' = z' := ⟨_, rfl⟩
  rw [hz'] at hseed
  obtain ⟨_, hjn, hln⟩ := hseed
  obtain ⟨d, hd⟩ : ∃ d, joinMx z.m = d := ⟨_, rfl⟩
  rw [hd] at hjn
  have CI := fun t u v w ht hu hv => C_impl_RunShared ls x s' t u v z' w ht HLE.out hu hv hz'
  have CZ := fun u v w h h' => C_impl_JoinL z.m.a.r z.m.a.c z.m.a.xs z.m.b.r z.m.b.c z.m.b.xs u v d w h h' hd
  have CY := fun u v w h h' => C_impl_JoinL z'.m.a.r z'.m.a.c z'.m.a.xs z'.m.b.r z'.m.b.c z'.m.b.xs u v d w h h' hjn
  unfold MakesMx at CZ CY
  unfold MakesScl at CI
  (try dsimp only at CI)
  have HLN := Lib.hid hln
  clear hs hok hok' hz' hd hjn hln
  go_upto_region 10 with fail
  go_upto_region 11 with (first | refine qLb6 S ?_ | (go_at_call 31; refine (CI _ _ _ _ (HS.out.at_ S) (HU.out.at_ S) (HV.out.at_ S)).mono ?_; rintro e w ⟨u3, v3, o3, rfl, T0⟩; have hX := qcl HL S T0; clear F S HL T0; obtain ⟨L, HL, S, F⟩ := hX; obtain ⟨O3, e3, rfl, heo3, hmo3⟩ := qSl HL S 0; obtain ⟨B3, d3, rfl, hdb3, hmb3⟩ := qSl HL S 1; obtain ⟨A3, c3, rfl, hca3, hma3⟩ := qSl HL S 2) | (refine qal HL S zSMx ?_; clear F S HL; intro g12 w L HL S F) | (refine qst HL S 0 ?_; clear F S HL; intro w L HL S F))
  clear CI hs' hmod hsb
  have hln := HLN.out
  have HL0 := HL; have F0 := F; refine wp_region_tree (S := fun w' => St w0 w' L) (.calm 0 (.calm 2 (.act 1 (.act 3 (.act 4 (qcs 5 8 .fin) .stop) .stop) .stop))) (by kernel_rfl) (by kernel_rfl) (by kernel_rfl) (by intro c a d v w h; cases d <;> exact h) ?_; dsimp only [qcs, Nat.reduceAdd]; replace S := S.drew
  repeat (first | refine qTb6X ?_ | refine qCaX ?_ | refine qAnX ?_ | refine qSkX ?_ | refine qAsX ?_ | (refine tree_act rfl rfl ?_ tree_stop; intro K hK; go_wp2_with (first | (go_at_call 27; refine (CY _ _ _ (by exact Sees.row S (atOf HL (p := 3) rfl)) (by exact Sees.row S (atOf HL (p := 2) rfl))).mono ?_; rintro e w ⟨u9, rfl, T0⟩; have hX := qcl HL S T0; clear F S HL T0; obtain ⟨L, HL, S, F⟩ := hX; obtain ⟨A', cap', rfl, hcap', hmax'⟩ := qSl HL S 0) | (go_at_call 27; refine (CZ _ _ _ (Sees.row S qAt) (Sees.row S qAt)).mono ?_; rintro e w ⟨u9, rfl, T0⟩; have hX := qcl HL S T0; clear F S HL T0; obtain ⟨L, HL, S, F⟩ := hX; obtain ⟨A', cap', rfl, hcap', hmax'⟩ := qSl HL S 0) | (go_at_call 28; refine qGr S (C_sameMxL _ _ _ _ _ _ (by exact (Sees.row S qAt)) (by exact (Sees.row S qAt))) ?_; clear S; intro w S)); (refine qKoX hK ?_; clear hK K)))
  refine tree_fin ?_
  go_wp2
  go_ret
  exact ⟨rfl, HBB.out.trans (S.below.mono HBB.out.size)⟩
end
set_option maxRecDepth 100000 in
theorem FnRunSeeds_lifted (os : Os) (started : os.Started) (H : Type) (enc : TypeId × Value → H) :
    ReturnsInHanded {} Tryz.checked os 6 .any (Rows.fnRunSeedsSpec.pre6 enc Tryz.prog Tryz.f6 Rows.fnRunSeedsRow.domain false) (Rows.fnRunSeedsSpec.post enc Tryz.prog Tryz.f6 false true false false) := by
  refine returnsInHanded_of_change (C := Tryz.checked) Tryz.ownKnob_ started (by kernel_rfl) Tryz.func6
    (ChangeSpec.witness6 (enc := enc) (C := Tryz.checked) false ⟨#[], #[.slice none 0 0], []⟩ 8 (by kernel_rfl) (by kernel_rfl) (by kernel_rfl) (by kernel_rfl)) ?_
  intro W base args ds gs before hval0 hW _ _
  have hval : ∀ (j : Nat) t v, Tryz.f6.params[j]? = some t → args[j]? = some v → Value.okWide Tryz.prog W .any base t v := hval0
  have hW' := hW
  obtain ⟨p, q, hA0, hV, rfl, _, _⟩ := hW
  have hA : DataW.TrodAll enc Tryz.prog W 0 (fun _ => true) true Tryz.f6.params.toList args.toList ds p := hA0
  rw [Tryz.params6] at hA hval
  obtain ⟨v0, vs0, d0, ds0, p0, q0, hargs, rfl, rfl, h0, r0⟩ := trodAll_cons hA
  obtain ⟨rfl, rfl, rfl⟩ := trodAll_nil r0
  obtain rfl : args = #[v0] := by cases args; simp_all
  obtain ⟨rfl, rfl⟩ := trodVars_none hV
  clear hA0 hval0
  have s0 := open_bytes (e := 5) (by kernel_rfl) (hval 0 _ v0 rfl rfl) h0
  refine (L_FnRunSeeds _ W s0).mono fun e W' ⟨he, hb⟩ => ⟨_, he, ?_⟩
  exact law_post 4 Tryz.underlying4 Tryz.laidOut_ (by kernel_rfl) rfl rfl hW' ⟨rfl, rfl, rfl⟩ hb
theorem FnRunSeeds_holds : Rows.FnRunSeedsSaid :=
  OpenClaim.holds_of_wide 6 Tryz.f6 rfl rfl rfl rfl rfl rfl rfl ⟨rfl, rfl, rfl, rfl, rfl⟩ rfl rfl rfl rfl rfl (by kernel_rfl) Tryz.func6 (closed_of (by kernel_rfl))
    (of_decide_eq_true (by kernel_rfl)) (by unfold Func.isWrapper; first | (rw [if_pos (by decide +kernel)]; kernel_rfl) | (rw [if_neg (by decide +kernel)]; exact ⟨rfl, rfl⟩))
    (fun os started H enc _ => FnRunSeeds_lifted os started H enc)
end
end Go.Proofs.YtjgfjfjboimgdaaGreat
