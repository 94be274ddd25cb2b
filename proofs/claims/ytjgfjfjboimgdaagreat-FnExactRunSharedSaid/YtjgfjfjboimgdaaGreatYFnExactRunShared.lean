/-
  Proved here: the program's RunShared returns what the reference's returns, for all arguments.
-/
import Derived.Test.YtjgfjfjboimgdaaGreatY43
import Derived.Test.YtjgfjfjboimgdaaGreatY45
import Derived.Test.YtjgfjfjboimgdaaGreatY56
import Derived.Test.YtjgfjfjboimgdaaGreatY63
namespace Go.Proofs.YtjgfjfjboimgdaaGreat
set_option linter.unusedSimpArgs false
set_option linter.unusedVariables false
set_option linter.unusedSectionVars false
section
open Go Go.RowKit Go.ChangeShapes Go.WideShapes Go.ChangeAt
section
attribute [local irreducible] wpList Oper.wp Calls
set_option maxHeartbeats 40000000 in
set_option maxRecDepth 20000 in
theorem L_FnExactRunShared (t : Value) (ms : List SLy) (r c : Int) (xs : List Int) (r' c' : Int) (ys : List Int) (u v : Value) (seed : Int) (w0 : World) (ht : SeesSLs w0 t ms) (hu : Ints w0 u xs) (hv : Ints w0 v ys) :
    Calls Tryz.prog 7 #[t, .agg #[.int .i64 r, .int .i64 c, u, .int .i64 r', .int .i64 c', v], .int .i64 seed] w0 fun e w' => e = .returned (.bool true) ∧ Below w0.heap.size w0 w' := by
  have HT := Lib.hid ht
  have HU := Lib.hid hu
  have HV := Lib.hid hv
  obtain ⟨A, cap, rfl, hcap, hmax, _⟩ := ht
  obtain ⟨_, A1, k1, rfl, hk1, hm1, _⟩ := hu
  obtain ⟨_, A2, k2, rfl, hk2, hm2, _⟩ := hv
  have K1 := Lib.hid (And.intro hk1 hm1)
  have K2 := Lib.hid (And.intro hk2 hm2)
  clear hk1 hm1 hk2 hm2
  obtain ⟨k, hk⟩ : ∃ k, szSLs ms 1048576 = k := ⟨_, rfl⟩
  have HK := Lib.hid hk
  by_cases hneg : k < 0
  · clear hk
    obtain ⟨L, HL, S⟩ := st_start w0; have F : True := trivial
    go_enter Tryz.func7, Tryz.ntmps7
    go_wp2_with (first | (refine qbx HL S ?_; clear F S HL; intro g w L HL S F) | (go_at_call 33; refine qGr S (C_szSharedLayerS _ ms _ _ _ (HT.out.at_ S) ⟨by omega, by omega⟩ HK.out) ?_; clear S; intro w S))
    go_ret
    exact ⟨rfl, S.below⟩
  obtain ⟨hn1, hx1⟩ := szSLs_each (k := 1048576) (by show 0 ≤ szSLs ms 1048576; omega : 0 ≤ szSLs ms ((1048576 : Nat) : Int))
  have hkle : k ≤ 1048576 - ms.length ∧ 0 ≤ szSLsFrom ms (1048576 - ms.length) := by
    unfold szSLs at hk
    split at hk
    · omega
    · have := szSLsFrom_le ms (1048576 - ms.length) (by omega)
      omega
  have HSM := Lib.hid hx1
  have HSZ := Lib.hid hkle.2
  have hk1 : k ≤ 1048576 := by omega
  have hk0 : 0 ≤ k := by omega
  clear hkle hk hneg
  by_cases hbig : k - xs.length - ys.length < 0
  · have E1 := Lib.hid (if_pos hbig : (if k - xs.length - ys.length < 0 then (-1 : Int) else k - xs.length - ys.length) = -1)
    clear hbig
    obtain ⟨L, HL, S⟩ := st_start w0; have F : True := trivial
    go_enter Tryz.func7, Tryz.ntmps7
    go_wp2_with (first | (refine qbx HL S ?_; clear F S HL; intro g w L HL S F) | refine qLb6 S ?_ | (go_at_call 33; refine qGr S (C_szSharedLayerS _ ms _ _ _ (HT.out.at_ S) ⟨by omega, by omega⟩ HK.out) ?_; clear S; intro w S) | (go_at_call 10; refine qGr S (C_szSMx' _ _ _ _ _ _ _ _ _ _ _ _ _ K1.out.1 K1.out.2 K2.out.1 K2.out.2 ⟨by omega, by omega⟩ (by exact E1.out)) ?_; clear S; intro w S))
    go_ret
    exact ⟨rfl, S.below⟩
  obtain ⟨l0, hl0⟩ : ∃ l0, k - xs.length - ys.length = l0 := ⟨_, rfl⟩
  have E1 := Lib.hid ((if_neg hbig).trans hl0 : (if k - xs.length - ys.length < 0 then (-1 : Int) else k - xs.length - ys.length) = l0)
  have hl1 : l0 ≤ 1048576 := by omega
  have hl2 : 0 ≤ l0 := by omega
  have n1 : xs.length ≤ 1048576 := by omega
  have n2 : ys.length ≤ 1048576 := by omega
  clear hbig hl0
  have CT := fun r c xs r' c' ys u v w h h' hn hn' => C_toSharedMatrix r c xs r' c' ys u v w h h' hn hn'
  obtain ⟨z, hz⟩ : ∃ z, runS ms ⟨⟨r, c, xs⟩, ⟨r', c', ys⟩⟩ seed = z := ⟨_, rfl⟩
  have CS := fun t u v w ht hu hv => C_spec_RunShared ms ⟨⟨r, c, xs⟩, ⟨r', c', ys⟩⟩ seed t u v z w ht hn1 HSM.out hu hv n1 n2 hz
  have CI := fun t u v w ht hu hv => C_impl_RunShared ms ⟨⟨r, c, xs⟩, ⟨r', c', ys⟩⟩ seed t u v z w ht (fun l hl => (HSM.out l hl).1) hu hv hz
  obtain ⟨b1, b2, b3⟩ : z.m.a.xs.length ≤ 25 ∧ z.m.b.xs.length ≤ 25 ∧ z.os.length ≤ 2400 := hz ▸ runS_few _ _ _
  unfold MakesScl at CS CI
  unfold MakesSMx at CT
  dsimp only at CS CI
  clear hz
  obtain ⟨L, HL, S⟩ := st_start w0; have F : True := trivial
  go_enter Tryz.func7, Tryz.ntmps7
  go_upto_region 8 with (first | (refine qbd 4 HL S ?_; clear F S HL; intro gx w L HL S F) | refine qLb6 S ?_ | (go_at_call 33; refine qGr S (C_szSharedLayerS _ ms _ _ _ (HT.out.at_ S) ⟨by omega, by omega⟩ HK.out) ?_; clear S; intro w S) | (go_at_call 10; refine qGr S (C_szSMx' _ _ _ _ _ _ _ _ _ _ _ _ _ K1.out.1 K1.out.2 K2.out.1 K2.out.2 ⟨by omega, by omega⟩ (by exact E1.out)) ?_; clear S; intro w S))
  clear E1 K1 K2 HK
  (try simp only [Act.put, qP0, qP1, qP2])
  go_cut [8, 9, 10] (fun b o l w => ∃ (g8 : Nat) (Ag8 Bg8 Og8 : Option Addr) (cg8 dg8 eg8 : Nat), b = .pointer (some ⟨g8, 0, none⟩) ∧ o = .slice Og8 z.os.length eg8 ∧ l = .int .i64 z.last ∧ St w0 w (.box g8 32 [.int .i64 z.m.a.r, .int .i64 z.m.a.c, .slice Ag8 z.m.a.xs.length cg8, .int .i64 z.m.b.r, .int .i64 z.m.b.c, .slice Bg8 z.m.b.xs.length dg8] :: .row 3 1 (.slice Og8 z.os.length eg8) z.os.length (ints z.os) :: .row 3 1 (.slice Bg8 z.m.b.xs.length dg8) z.m.b.xs.length (ints z.m.b.xs) :: .row 3 1 (.slice Ag8 z.m.a.xs.length cg8) z.m.a.xs.length (ints z.m.a.xs) :: L))
  case first =>
    have HL0 := HL; have F0 := F; refine wp_region_tree (S := fun w' => St w0 w' L) (.calm 0 (.calm 2 (.calm 4 (.act 1 (.act 3 (.act 5 (qcs 6 4 (.act 10 (.act 11 (.calm 12 (.calm 13 .fin)) .stop) .stop)) (.act 10 (.act 5 (qcs 6 4 (.act 11 (.calm 12 (.calm 13 .fin)) .stop)) .stop) .stop)) (.act 10 (.act 3 (.act 5 (qcs 6 4 (.act 11 (.calm 12 (.calm 13 .fin)) .stop)) .stop) .stop) .stop)) (.act 10 (.act 1 (.act 3 (.act 5 (qcs 6 4 (.act 11 (.calm 12 (.calm 13 .fin)) .stop)) .stop) .stop) .stop) .stop))))) (by kernel_rfl) (by kernel_rfl) (by kernel_rfl) (by intro c a d v w h; cases d <;> exact h) ?_; dsimp only [qcs, Nat.reduceAdd]; replace S := S.drew
    repeat' (first | refine qTb6X ?_ | refine qCaX ?_ | refine qAnX ?_ | refine qSkX ?_ | exact tree_stop | (refine tree_act rfl rfl ?_ ?_) | (intro K hK; (refine qaw HL S zSMx ?_; clear F S HL; intro g w L HL S F); (refine qKoX hK ?_; clear hK K)) | (intro K hK; (refine qsw HL S 0 ?_; clear F S HL; intro w L HL S F); (refine qKoX hK ?_; clear hK K)) | (intro K hK; (refine qsw HL S 3 ?_; clear F S HL; intro w L HL S F); (refine qKoX hK ?_; clear hK K)) | (intro K hK; (refine qsw HL S 5 ?_; clear F S HL; intro w L HL S F); (refine qKoX hK ?_; clear hK K)) | (intro K hK; (refine qsw HL S 7 ?_; clear F S HL; intro w L HL S F); (refine qKoX hK ?_; clear hK K)) | (intro K hK; go_wp2_with (first | (go_at_call 34; refine (C_toSharedLayerS _ ms _ (HT.out.at_ S) hn1 HSM.out).mono ?_; rintro e w ⟨u1, q1, rfl, hps, T0⟩; have HQ1 := Lib.hid hps; clear hps; obtain ⟨L, hM, T⟩ := st_name ((S.call T0).perm List.perm_append_comm); clear T0; clear F S; replace HL := qNm HL hM; clear hM; have S := T; clear T; have F := qFc HL S) | (go_at_call 13; refine (CT _ _ _ _ _ _ _ _ _ (HU.out.at_ S) (HV.out.at_ S) n1 n2).mono ?_; rintro e w ⟨u2, v2, rfl, T0⟩; have hX := qcl HL S T0; clear F S HL T0; obtain ⟨L, HL, S, F⟩ := hX; obtain ⟨A', cap', rfl, hcap', hmax'⟩ := qSl HL S 0; obtain ⟨A', cap', rfl, hcap', hmax'⟩ := qSl HL S 1) | (go_at_call 32; refine (CS _ _ _ _ (HQ1.out ▸ sees_sls S (by rw [HL.out]; intro e he; simp [he]) : SeesSLs _ _ ms) (Sees.row S qAt) (Sees.row S qAt)).mono ?_; rintro e w ⟨u1', v1', o1', rfl, T0⟩; have hX := qcl HL S T0; clear F S HL T0; obtain ⟨L, HL, S, F⟩ := hX; obtain ⟨Ao, co, rfl, hco, hmo⟩ := qSl HL S 0; obtain ⟨A', cap', rfl, hcap', hmax'⟩ := qSl HL S 1; obtain ⟨A', cap', rfl, hcap', hmax'⟩ := qSl HL S 2)); (refine qKoX hK ?_; clear hK K)))
    all_goals
      refine tree_fin ?_
      go_wp2_with fail
      go_meet
      rw [HL0.out]
      rw [HL.out] at S
      exact ⟨_, _, _, _, _, _, _, rfl, rfl, rfl, S.sel (by exact qQ4)⟩
  case rest =>
  obtain ⟨g8, Ag8, Bg8, Og8, cg8, dg8, eg8, rfl, rfl, rfl, T0⟩ := hcut
  obtain ⟨L, hM, T⟩ := st_name T0
  clear T0
  clear F S; replace HL := qNm HL hM; clear hM; have S := T; clear T; have F := qFc HL S
  clear CS
  go_upto_region 10 with (first | (go_at_call 34; refine (C_toSharedLayerS _ ms _ (HT.out.at_ S) hn1 HSM.out).mono ?_; rintro e w ⟨ux, px, rfl, hps, T0⟩; have HPX := Lib.hid hps; clear hps; obtain ⟨L, hM, T⟩ := st_name ((S.call T0).perm List.perm_append_comm); clear T0; clear F S; replace HL := qNm HL hM; clear hM; have S := T; clear T; have F := qFc HL S))
  go_upto_region 11 with (first | refine qLb6 S ?_ | (go_at_call 13; refine (CT _ _ _ _ _ _ _ _ _ (HU.out.at_ S) (HV.out.at_ S) n1 n2).mono ?_; rintro e w ⟨u2, v2, rfl, T0⟩; have hX := qcl HL S T0; clear F S HL T0; obtain ⟨L, HL, S, F⟩ := hX; obtain ⟨A', cap', rfl, hcap', hmax'⟩ := qSl HL S 0; obtain ⟨A', cap', rfl, hcap', hmax'⟩ := qSl HL S 1) | (refine qal HL S zSMx ?_; clear F S HL; intro g12 w L HL S F) | (refine qst HL S 0 ?_; clear F S HL; intro w L HL S F))
  go_upto_region 12 with (first | refine qLb6 S ?_ | (go_at_call 31; refine (CI _ _ _ _ (HPX.out ▸ sees_sls S (by rw [HL.out]; intro e he; simp [he]) : SeesSLs _ _ ms) (Sees.row S qAt) (Sees.row S qAt)).mono ?_; rintro e w ⟨u1', v1', o1', rfl, T0⟩; have hX := qcl HL S T0; clear F S HL T0; obtain ⟨L, HL, S, F⟩ := hX; obtain ⟨Ao, co, rfl, hco, hmo⟩ := qSl HL S 0; obtain ⟨A', cap', rfl, hcap', hmax'⟩ := qSl HL S 1; obtain ⟨A', cap', rfl, hcap', hmax'⟩ := qSl HL S 2) | (refine qal HL S zSMx ?_; clear F S HL; intro g13 w L HL S F) | (refine qst HL S 0 ?_; clear F S HL; intro w L HL S F))
  go_upto_region 14 with (first | refine qLb6 S ?_ | (go_at_call 15; refine qGr S (C_eqSharedMatrix _ _ _ _ _ _ _ _ _ _ _ (by exact (Sees.row S qAt)) (by exact (Sees.row S qAt)) (by exact (Sees.row S qAt)) (by exact (Sees.row S qAt))) ?_; clear S; intro w S) | (go_at_call 16; refine qGr S (C_eqIntS _ _ _ _ (by exact (Sees.row S qAt)) (by exact (Sees.row S qAt))) ?_; clear S; intro w S))
  go_upto_region 16 with (first | (go_at_call 34; refine (C_toSharedLayerS _ ms _ (HT.out.at_ S) hn1 HSM.out).mono ?_; rintro e w ⟨u1, q1, rfl, hq, T0⟩; have HS1 := Lib.hid (hq ▸ sees_sls T0 (fun e he => he) : SeesSLs w u1 ms); replace S := S.grow T0.below; clear T0 hq) | (go_at_call 35; refine qGr S (C_eqSharedLayerS _ _ ms _ (HPX.out ▸ sees_sls S (by rw [HL.out]; intro e he; simp [he]) : SeesSLs _ _ ms) HS1.out) ?_; clear S; intro w S))
  clear HS1
  have HL0 := HL; have F0 := F; refine wp_region_tree (S := fun w' => St w0 w' L) (.calm 0 (.calm 1 (.act 2 (.act 3 (.calm 4 .fin) .stop) .stop))) (by kernel_rfl) (by kernel_rfl) (by kernel_rfl) (by intro c a d v w h; cases d <;> exact h) ?_; replace S := S.drew
  repeat (first | refine qTb6 ?_ | refine qCa ?_ | refine qAn ?_ | refine qSk ?_ | (refine tree_act rfl rfl ?_ tree_stop; intro K hK; go_wp2_with (first | (go_at_call 13; refine (CT _ _ _ _ _ _ _ _ _ (HU.out.at_ S) (HV.out.at_ S) n1 n2).mono ?_; rintro e w ⟨u2, v2, rfl, T0⟩; have hX := qcl HL S T0; clear F S HL T0; obtain ⟨L, HL, S, F⟩ := hX; obtain ⟨A', cap', rfl, hcap', hmax'⟩ := qSl HL S 0; obtain ⟨A', cap', rfl, hcap', hmax'⟩ := qSl HL S 1) | (go_at_call 15; refine qGr S (C_eqSharedMatrix _ _ _ _ _ _ _ _ _ _ _ (by exact (Sees.row S qAt)) (by exact (Sees.row S qAt)) (by exact (Sees.row S qAt)) (by exact (Sees.row S qAt))) ?_; clear S; intro w S)); (refine qKo hK ?_; clear hK K)))
  refine tree_fin ?_
  (have T := S.sub (subL HL0 HL (by (repeat (first | exact List.Sublist.refl _ | exact List.nil_sublist _ | exact List.sublist_append_left _ _ | apply List.Sublist.cons_cons | apply List.Sublist.cons)); done)); obtain ⟨L, hM, T'⟩ := st_name T; clear S HL F T; have HL := Lib.hid (hM.trans HL0.out); clear hM HL0 F0; have S := T'; clear T'; have F := qFc HL S)
  go_upto_region 19 with fail
  have hez := endSLs_sz px 1 (1048576 - ms.length) (by omega) (by rw [HPX.out]; exact HSZ.out)
  have hsz1 := HSZ.out
  have hl0 : px.length = ms.length := by rw [← HPX.out, List.length_map]
  have hez1 := endSLs_le px 1
  obtain ⟨kz, hkz⟩ : ∃ kz, endSLs px 1 = kz := ⟨_, rfl⟩
  rw [hkz] at hez hez1
  have hkz1 : 1 ≤ kz := hez1
  have hkz2 : kz ≤ 10000000 := by omega
  rw [HL.out] at S
  have T1 : St w0 _ (entsSL ux px ++ [_, _, _, _, _, _, _, _, _, _, _, _]) := S.perm (List.perm_append_comm (l₁ := [_, _, _, _, _, _, _, _, _, _, _, _]))
  have CM := C_markSharedLayerS _ _ px 1 w0 _ T1 (by omega) (by omega)
  rw [hkz] at CM
  clear hez hez1 hl0 S HL F T1 hkz hsz1
  go_upto_region 20 with (go_at_call 36; refine CM.mono ?_; rintro e w ⟨rfl, T0⟩)
  clear CM
  have S := T0.sub (List.sublist_append_right _ _)
  clear T0
  obtain ⟨L, hM, T⟩ := st_name S; clear S; have S := T; clear T; have HL := Lib.hid hM; clear hM; have F := qFc HL S
  go_upto_region 35 with (first | refine qLb6 S ?_ | (go_at_call 19; refine (C_markSharedMatrix L _ _ _ _ _ _ _ _ _ _ _ _ _ w0 _ S qAt qAt (by decide) ⟨by omega, by omega⟩ (by omega) (by omega)).mono ?_; rintro e w ⟨rfl, T0⟩; obtain ⟨L, hM, T⟩ := st_name T0; clear T0; clear F S; replace HL := qNm HL hM; clear hM; have S := T; clear T; have F := qFc HL S) | (go_at_call 21; refine qGr S (C_heldSharedMatrix _ _ _ _ _ _ _ _ _ _ (by exact (Sees.row S qAt)) (by exact (Sees.row S qAt)) ⟨by omega, by omega⟩ (by omega) (by omega)) ?_; clear S; intro w S) | (go_at_call 15; refine qGr S (C_eqSharedMatrix _ _ _ _ _ _ _ _ _ _ _ (by exact (Sees.row S qAt)) (by exact (Sees.row S qAt)) (by exact (Sees.row S qAt)) (by exact (Sees.row S qAt))) ?_; clear S; intro w S) | (go_at_call 16; refine qGr S (C_eqIntS _ _ _ _ (by exact (Sees.row S qAt)) (by exact (Sees.row S qAt))) ?_; clear S; intro w S) | (go_at_call 20; refine (C_markIntS L _ _ _ _ _ w0 _ S qAt ⟨by omega, by omega⟩ (by omega)).mono ?_; rintro e w ⟨rfl, T0⟩; obtain ⟨L, hM, T⟩ := st_name T0; clear T0; clear F S; replace HL := qNm HL hM; clear hM; have S := T; clear T; have F := qFc HL S) | (go_at_call 22; refine qPu (C_heldIntS _ _ _ _ (Sees.row S qAt) ⟨by omega, by omega⟩ (by omega)) ?_))
  (try simp only [Act.put, qP0, qP1, qP2])
  go_cut [19, 20, 21] (fun b o l w => ∃ (g19 : Nat) (Ag19 Bg19 Og19 : Option Addr) (cg19 dg19 eg19 : Nat), b = .pointer (some ⟨g19, 0, none⟩) ∧ o = .slice Og19 z.os.length eg19 ∧ l = .int .i64 z.last ∧ St w0 w (.box g19 32 [.int .i64 z.m.a.r, .int .i64 z.m.a.c, .slice Ag19 z.m.a.xs.length cg19, .int .i64 z.m.b.r, .int .i64 z.m.b.c, .slice Bg19 z.m.b.xs.length dg19] :: .row 3 1 (.slice Og19 z.os.length eg19) z.os.length (ints z.os) :: .row 3 1 (.slice Bg19 z.m.b.xs.length dg19) z.m.b.xs.length (ints z.m.b.xs) :: .row 3 1 (.slice Ag19 z.m.a.xs.length cg19) z.m.a.xs.length (ints z.m.a.xs) :: L))
  case first =>
    have HL0 := HL; have F0 := F; refine wp_region_tree (S := fun w' => St w0 w' L) (.calm 0 (.calm 2 (.calm 4 (.act 1 (.act 3 (.act 5 (qcs 6 4 (.act 10 (.act 11 (.calm 12 (.calm 13 .fin)) .stop) .stop)) (.act 10 (.act 5 (qcs 6 4 (.act 11 (.calm 12 (.calm 13 .fin)) .stop)) .stop) .stop)) (.act 10 (.act 3 (.act 5 (qcs 6 4 (.act 11 (.calm 12 (.calm 13 .fin)) .stop)) .stop) .stop) .stop)) (.act 10 (.act 1 (.act 3 (.act 5 (qcs 6 4 (.act 11 (.calm 12 (.calm 13 .fin)) .stop)) .stop) .stop) .stop) .stop))))) (by kernel_rfl) (by kernel_rfl) (by kernel_rfl) (by intro c a d v w h; cases d <;> exact h) ?_; dsimp only [qcs, Nat.reduceAdd]; replace S := S.drew
    repeat' (first | refine qTb6X ?_ | refine qCaX ?_ | refine qAnX ?_ | refine qSkX ?_ | exact tree_stop | (refine tree_act rfl rfl ?_ ?_) | (intro K hK; (refine qaw HL S zSMx ?_; clear F S HL; intro g w L HL S F); (refine qKoX hK ?_; clear hK K)) | (intro K hK; (refine qsw HL S 0 ?_; clear F S HL; intro w L HL S F); (refine qKoX hK ?_; clear hK K)) | (intro K hK; (refine qsw HL S 3 ?_; clear F S HL; intro w L HL S F); (refine qKoX hK ?_; clear hK K)) | (intro K hK; (refine qsw HL S 5 ?_; clear F S HL; intro w L HL S F); (refine qKoX hK ?_; clear hK K)) | (intro K hK; (refine qsw HL S 7 ?_; clear F S HL; intro w L HL S F); (refine qKoX hK ?_; clear hK K)) | (intro K hK; go_wp2_with (first | (go_at_call 34; refine (C_toSharedLayerS _ ms _ (HT.out.at_ S) hn1 HSM.out).mono ?_; rintro e w ⟨u1, q1, rfl, hps, T0⟩; have HQ1 := Lib.hid hps; clear hps; obtain ⟨L, hM, T⟩ := st_name ((S.call T0).perm List.perm_append_comm); clear T0; clear F S; replace HL := qNm HL hM; clear hM; have S := T; clear T; have F := qFc HL S) | (go_at_call 13; refine (CT _ _ _ _ _ _ _ _ _ (HU.out.at_ S) (HV.out.at_ S) n1 n2).mono ?_; rintro e w ⟨u2, v2, rfl, T0⟩; have hX := qcl HL S T0; clear F S HL T0; obtain ⟨L, HL, S, F⟩ := hX; obtain ⟨A', cap', rfl, hcap', hmax'⟩ := qSl HL S 0; obtain ⟨A', cap', rfl, hcap', hmax'⟩ := qSl HL S 1) | (go_at_call 31; refine (CI _ _ _ _ (HQ1.out ▸ sees_sls S (by rw [HL.out]; intro e he; simp [he]) : SeesSLs _ _ ms) (Sees.row S qAt) (Sees.row S qAt)).mono ?_; rintro e w ⟨u1', v1', o1', rfl, T0⟩; have hX := qcl HL S T0; clear F S HL T0; obtain ⟨L, HL, S, F⟩ := hX; obtain ⟨Ao, co, rfl, hco, hmo⟩ := qSl HL S 0; obtain ⟨A', cap', rfl, hcap', hmax'⟩ := qSl HL S 1; obtain ⟨A', cap', rfl, hcap', hmax'⟩ := qSl HL S 2)); (refine qKoX hK ?_; clear hK K)))
    all_goals
      refine tree_fin ?_
      go_wp2_with fail
      go_meet
      rw [HL0.out]
      rw [HL.out] at S
      exact ⟨_, _, _, _, _, _, _, rfl, rfl, rfl, S.sel (by exact qQ4)⟩
  case rest =>
  obtain ⟨g19, Ag19, Bg19, Og19, cg19, dg19, eg19, rfl, rfl, rfl, T0⟩ := hcut
  obtain ⟨L, hM, T⟩ := st_name T0
  clear T0
  clear F S; replace HL := qNm HL hM; clear hM; have S := T; clear T; have F := qFc HL S
  go_wp2_with (first | refine qLb6 S ?_ | (go_at_call 21; refine qGr S (C_heldSharedMatrix _ _ _ _ _ _ _ _ _ _ (by exact (Sees.row S qAt)) (by exact (Sees.row S qAt)) ⟨by omega, by omega⟩ (by omega) (by omega)) ?_; clear S; intro w S) | (go_at_call 15; refine qGr S (C_eqSharedMatrix _ _ _ _ _ _ _ _ _ _ _ (by exact (Sees.row S qAt)) (by exact (Sees.row S qAt)) (by exact (Sees.row S qAt)) (by exact (Sees.row S qAt))) ?_; clear S; intro w S) | (go_at_call 16; refine qGr S (C_eqIntS _ _ _ _ (by exact (Sees.row S qAt)) (by exact (Sees.row S qAt))) ?_; clear S; intro w S) | (go_at_call 22; refine qPu (C_heldIntS _ _ _ _ (Sees.row S qAt) ⟨by omega, by omega⟩ (by omega)) ?_))
  go_ret
  exact ⟨rfl, S.below⟩
end
set_option maxRecDepth 100000 in
theorem FnExactRunShared_lifted (os : Os) (started : os.Started) (H : Type) (enc : TypeId × Value → H) :
    ReturnsInHanded {} Tryz.checked os 7 .any (Rows.fnExactRunSharedSpec.pre6 enc Tryz.prog Tryz.f7 Rows.fnExactRunSharedRow.domain false) (Rows.fnExactRunSharedSpec.post enc Tryz.prog Tryz.f7 false true false false) := by
  refine returnsInHanded_of_change (C := Tryz.checked) Tryz.ownKnob_ started (by kernel_rfl) Tryz.func7
    (ChangeSpec.witness6 (enc := enc) (C := Tryz.checked) false ⟨#[], #[.slice none 0 0, .agg #[.int .i64 0, .int .i64 0, .slice none 0 0, .int .i64 0, .int .i64 0, .slice none 0 0], .int .i64 0], []⟩ 8 (by kernel_rfl) (by kernel_rfl) (by kernel_rfl) (by kernel_rfl)) ?_
  intro W base args ds gs before hval0 hW _ _
  have hval : ∀ (j : Nat) t v, Tryz.f7.params[j]? = some t → args[j]? = some v → Value.okWide Tryz.prog W .any base t v := hval0
  have hW' := hW
  obtain ⟨p, q, hA0, hV, rfl, _, _⟩ := hW
  have hA : DataW.TrodAll enc Tryz.prog W 0 (fun _ => true) true Tryz.f7.params.toList args.toList ds p := hA0
  rw [Tryz.params7] at hA hval
  obtain ⟨v0, vs0, d0, ds0, p0, q0, hargs, rfl, rfl, h0, r0⟩ := trodAll_cons hA
  obtain ⟨v1, vs1, d1, ds1, p1, q1, rfl, rfl, rfl, h1, r1⟩ := trodAll_cons r0
  obtain ⟨v2, vs2, d2, ds2, p2, q2, rfl, rfl, rfl, h2, r2⟩ := trodAll_cons r1
  obtain ⟨rfl, rfl, rfl⟩ := trodAll_nil r2
  obtain rfl : args = #[v0, v1, v2] := by cases args; simp_all
  obtain ⟨rfl, rfl⟩ := trodVars_none hV
  clear hA0 hval0
  obtain ⟨ls0, s0⟩ := open_sls (e := 112) (by kernel_rfl) (hval 0 _ v0 rfl rfl) h0
  obtain ⟨mr1, mc1, mu1, mx1, mr1', mc1', mu1', mx1', rfl, s1, s1'⟩ := open_smx (by kernel_rfl) (hval 1 _ v1 rfl rfl) h1
  obtain ⟨x2, rfl, rfl, rfl, w2⟩ := open_int Tryz.underlying3 (hval 2 _ v2 rfl rfl) h2
  refine (L_FnExactRunShared _ ls0 mr1 mc1 mx1 mr1' mc1' mx1' mu1 mu1' x2 W s0 s1 s1').mono fun e W' ⟨he, hb⟩ => ⟨_, he, ?_⟩
  exact law_post 4 Tryz.underlying4 Tryz.laidOut_ (by kernel_rfl) rfl rfl hW' ⟨rfl, rfl, rfl⟩ hb
theorem FnExactRunShared_holds : Rows.FnExactRunSharedSaid :=
  OpenClaim.holds_of_wide 7 Tryz.f7 rfl rfl rfl rfl rfl rfl rfl ⟨rfl, rfl, rfl, rfl, rfl⟩ rfl rfl rfl rfl rfl (by kernel_rfl) Tryz.func7 (closed_of (by kernel_rfl))
    (of_decide_eq_true (by kernel_rfl)) (by unfold Func.isWrapper; first | (rw [if_pos (by decide +kernel)]; kernel_rfl) | (rw [if_neg (by decide +kernel)]; exact ⟨rfl, rfl⟩))
    (fun os started H enc _ => FnExactRunShared_lifted os started H enc)
end
end Go.Proofs.YtjgfjfjboimgdaaGreat
