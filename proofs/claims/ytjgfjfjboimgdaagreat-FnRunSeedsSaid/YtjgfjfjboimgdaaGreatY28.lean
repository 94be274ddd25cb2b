/- PsS SmT MulU -/
import Derived.Test.YtjgfjfjboimgdaaGreatY26
import Derived.Test.YtjgfjfjboimgdaaGreatY27
namespace Go.Proofs.YtjgfjfjboimgdaaGreat
set_option linter.unusedSimpArgs false
set_option linter.unusedVariables false
set_option linter.unusedSectionVars false
open Go Go.RowKit
set_option maxHeartbeats 8000000
set_option maxRecDepth 20000
section
section
variable {P : Program} {w0 w : World} {a : Act} {L : List Ent} {o : Oper} {K : Act → World → Prop} {Q : Exit → Act → World → Prop}
theorem wp_emptyT (S : St w0 w L) (t : TypeId) (ho : o.op = .buildSlice t 0 #[])
    (e : TypeId) (ht : P.underlying t = some (.slice e)) {z : Option Value} {size bytes : Nat} (hi : (P.info? e).map (fun i => (i.zero, i.size, i.bytes)) = some (z, size, bytes))
    (h : ∀ g w' M, M = .row e size (.slice (some ⟨g, 0, none⟩) 0 0) 0 [] :: L → St w0 w' M → K (a.put o.dst (.slice (some ⟨g, 0, none⟩) 0 0)) w') : o.wp P a w K Q := by
  unfold Oper.wp
  simp only [execOp, ho, Sem.run_bind, Array.map_empty, run_empty ht hi w, Result.andThen_ok, Sem.run_pure]
  exact h _ _ _ rfl ((S.new e []).asRow (p := 0) rfl (by simp) (by simp [maxLen]))
end
attribute [local irreducible] wpList Oper.wp Calls
theorem C_spec_Product_good (z : Prd) (u1 u2 u3 u4 : Value) (w0 : World) (hs : seedOk z.s = true) (r1 : 1 ≤ z.R) (r2 : z.R ≤ 5) (k1 : 1 ≤ z.K) (k2 : z.K ≤ 5) (d1 : 1 ≤ z.D) (d2 : z.D ≤ 5)
    (lxa : z.xa.length = z.R * z.K) (lxb : z.xb.length = z.R * z.K) (lya : z.ya.length = z.K * z.D) (lyb : z.yb.length = z.K * z.D) (axa : z.xa.all rv = true) (axb : z.xb.all rv = true) (aya : z.ya.all rv = true) (ayb : z.yb.all rv = true)
    (h1 : Ints w0 u1 z.xa) (h2 : Ints w0 u2 z.xb) (h3 : Ints w0 u3 z.ya) (h4 : Ints w0 u4 z.yb) :
    Calls Tryz.prog 90 #[.agg #[.int .i64 z.R, .int .i64 z.K, u1, .int .i64 z.R, .int .i64 z.K, u2], .agg #[.int .i64 z.K, .int .i64 z.D, u3, .int .i64 z.K, .int .i64 z.D, u4], .int .i64 z.s] w0 (MakesScl w0 ⟨⟨⟨z.R, z.D, z.fir⟩, ⟨z.R, z.D, z.sec⟩⟩, z.d ++ z.e, z.s5⟩) := by
  have la1 : z.a1.length = z.R * z.K := rndTo_length _ _
  have la2 : z.a2.length = z.R * z.K := rndTo_length _ _
  have lb1 : z.b1.length = z.K * z.D := rndTo_length _ _
  have lb2 : z.b2.length = z.K * z.D := rndTo_length _ _
  have lc1 : z.c1.length = z.R * z.D := rndTo_length _ _
  have lc2 : z.c2.length = z.R * z.D := tab_length _ _
  have ld : z.d.length = z.R * z.K := tab_length _ _
  have le : z.e.length = z.K * z.D := tab_length _ _
  have lf : z.fir.length = z.R * z.D := z.add_len _ _
  have lsc : z.sec.length = z.R * z.D := z.add_len _ _
  have CK := fun w => C_spec_MakeMT z w hs r1 r2 k1 k2 d1 d2
  have CM := fun u1 u2 u3 u4 t1 t2 t3 t4 t5 t6 w p1 p2 p3 p4 q1 q2 q3 q4 q5 q6 => C_spec_MulM z u1 u2 u3 u4 t1 t2 t3 t4 t5 t6 w hs r1 r2 k1 k2 d1 d2 lxa lxb lya lyb axa axb aya ayb p1 p2 p3 p4 q1 q2 q3 q4 q5 q6
  have CV := fun w => C_l1InT z.s 1 2147483646 w (seedOk_bd hs)
  have HLX := Lib.hid (like_of r1 r2 k1 k2 lxa lxb axa axb)
  have HLY := Lib.hid (like_of k1 k2 d1 d2 lya lyb aya ayb)
  have b1 : z.R * z.K ≤ 25 := side_le r2 k2
  have b2 : z.K * z.D ≤ 25 := side_le k2 d2
  have COX := fun w h h' => C_l1OwnSharedMatrix z.R z.K z.xa z.R z.K z.xb u1 u2 w h h' (by omega) (by omega)
  have COY := fun w h h' => C_l1OwnSharedMatrix z.K z.D z.ya z.K z.D z.yb u3 u4 w h h' (by omega) (by omega)
  unfold MakesSMx at COX COY
  rw [lxa, lxb] at COX
  rw [lya, lyb] at COY
  have LXA := Lib.hid lxa
  have LXB := Lib.hid lxb
  have LYA := Lib.hid lya
  have LYB := Lib.hid lyb
  unfold MakesMT at CK
  unfold MakesMulM at CM
  unfold MakesScl
  dsimp only
  rw [List.length_append, lf, lsc, ld, le]
  have LA1 := Lib.hid la1
  have LA2 := Lib.hid la2
  have LB1 := Lib.hid lb1
  have LB2 := Lib.hid lb2
  have LC1 := Lib.hid lc1
  have LC2 := Lib.hid lc2
  have LD := Lib.hid ld
  have LE := Lib.hid le
  have HX1 := Lib.hid h1
  have HX2 := Lib.hid h2
  have HX3 := Lib.hid h3
  have HX4 := Lib.hid h4
  clear hs r1 r2 k1 k2 d1 d2 lxa lxb lya lyb axa axb aya ayb h1 h2 h3 h4 la1 la2 lb1 lb2 lc1 lc2 ld le lf lsc
  generalize z.fir = yf at *
  generalize z.sec = ys at *
  generalize z.R * z.K = NA at *
  generalize z.K * z.D = NB at *
  generalize z.R * z.D = NC at *
  generalize z.d = yd at *
  generalize z.e = ye at *
  generalize z.c2 = yc2 at *
  generalize z.c1 = yc1 at *
  generalize z.b2 = yb2 at *
  generalize z.b1 = yb1 at *
  generalize z.a2 = ya2 at *
  generalize z.a1 = ya1 at *
  generalize z.xa = xa at *
  generalize z.xb = xb at *
  generalize z.ya = ya at *
  generalize z.yb = yb at *
  generalize z.s5 = s5 at *
  generalize z.s = s0 at *
  generalize z.R = R at *
  generalize z.K = K at *
  generalize z.D = D at *
  obtain ⟨L, HL, S⟩ := st_start w0; have F : True := trivial
  go_enter Tryz.func90, Tryz.ntmps90
  go_upto_region 1 with (first | (refine qbd 3 HL S ?_; clear F S HL; intro gx w L HL S F) | (refine qbd 4 HL S ?_; clear F S HL; intro gy w L HL S F) | (refine qal HL S zSMx ?_; clear F S HL; intro g6 w L HL S F))
  (rw [HL.out] at S; have T := (S.toObj (p := 0) rfl); clear S HL F; have S := T; clear T; (try simp only [List.set_cons_zero, List.set_cons_succ] at S); obtain ⟨L, hM, T⟩ := st_name S; clear S; have S := T; clear T; have HL := Lib.hid hM; clear hM; have F := qFc HL S)
  go_upto_region 3 with (first | refine qLb6 S ?_ | (go_at_call 42; refine (COX _ (HX1.out.at_ S) (HX2.out.at_ S)).mono ?_; rintro e w ⟨u, v, rfl, T0⟩; have hX := qcl HL S T0; clear F S HL T0; obtain ⟨L, HL, S, F⟩ := hX; obtain ⟨A', cap', rfl, hcap', hmax'⟩ := qSl HL S 0; obtain ⟨A', cap', rfl, hcap', hmax'⟩ := qSl HL S 1) | (go_at_call 42; refine (COY _ (HX3.out.at_ S) (HX4.out.at_ S)).mono ?_; rintro e w ⟨u, v, rfl, T0⟩; have hX := qcl HL S T0; clear F S HL T0; obtain ⟨L, HL, S, F⟩ := hX; obtain ⟨A', cap', rfl, hcap', hmax'⟩ := qSl HL S 0; obtain ⟨A', cap', rfl, hcap', hmax'⟩ := qSl HL S 1) | (refine qst HL S 4 ?_; clear F S HL; intro w L HL S F) | (refine qst HL S 5 ?_; clear F S HL; intro w L HL S F))
  clear COX COY
  go_upto_region 5 with (first | refine qLb6 S ?_ | (go_at_call 44; refine qPu (CV _) ?_) | (go_at_call 43; refine qGr S (C_spec_SharedMatrixValid _ _ _ _ _ _ _ _ _ _ (by first | (unfold Ints; rw [LXA.out]; exact (Sees.row S qAt)) | (unfold Ints; rw [LYA.out]; exact (Sees.row S qAt))) (by first | (unfold Ints; rw [LXB.out]; exact (Sees.row S qAt)) | (unfold Ints; rw [LYB.out]; exact (Sees.row S qAt))) (by first | exact HLX.out | exact HLY.out)) ?_; clear S; intro w S))
  clear CV
  go_upto_region 6 with (first | (go_at_call 126; refine (CK _).mono ?_; rintro e w ⟨t1, t2, t3, t4, t5, t6, rfl, T0⟩; have hX := qcl HL S T0; clear F S HL T0; obtain ⟨L, HL, S, F⟩ := hX; obtain ⟨A', cap', rfl, hcap', hmax'⟩ := qSl HL S 0; obtain ⟨A', cap', rfl, hcap', hmax'⟩ := qSl HL S 1; obtain ⟨A', cap', rfl, hcap', hmax'⟩ := qSl HL S 2; obtain ⟨A', cap', rfl, hcap', hmax'⟩ := qSl HL S 3; obtain ⟨A', cap', rfl, hcap', hmax'⟩ := qSl HL S 4; obtain ⟨A', cap', rfl, hcap', hmax'⟩ := qSl HL S 5) | (refine qal HL S zMTri ?_; clear F S HL; intro g9 w L HL S F) | (refine qst HL S 0 ?_; clear F S HL; intro w L HL S F))
  clear CK
  (rw [HL.out] at S; have T := (S.toObj (p := 0) rfl); clear S HL F; have S := T; clear T; (try simp only [List.set_cons_zero, List.set_cons_succ] at S); obtain ⟨L, hM, T⟩ := st_name S; clear S; have S := T; clear T; have HL := Lib.hid hM; clear hM; have F := qFc HL S)
  go_upto_region 7 with (first | refine qLb6 S ?_ | refine qLo18 S ?_ | (go_at_call 127; refine (CM _ _ _ _ _ _ _ _ _ _ _ (by unfold Ints; rw [LXA.out]; exact (Sees.row S qAt)) (by unfold Ints; rw [LXB.out]; exact (Sees.row S qAt)) (by unfold Ints; rw [LYA.out]; exact (Sees.row S qAt)) (by unfold Ints; rw [LYB.out]; exact (Sees.row S qAt)) (by unfold Ints; rw [LA1.out]; exact (Sees.row S qAt)) (by unfold Ints; rw [LA2.out]; exact (Sees.row S qAt)) (by unfold Ints; rw [LB1.out]; exact (Sees.row S qAt)) (by unfold Ints; rw [LB2.out]; exact (Sees.row S qAt)) (by unfold Ints; rw [LC1.out]; exact (Sees.row S qAt)) (by unfold Ints; rw [LC2.out]; exact (Sees.row S qAt))).mono ?_; rintro e w ⟨p1, p2, p3, p4, rfl, T0⟩; have hX := qcl HL S T0; clear F S HL T0; obtain ⟨L, HL, S, F⟩ := hX; obtain ⟨A', cap', rfl, hcap', hmax'⟩ := qSl HL S 0; obtain ⟨A', cap', rfl, hcap', hmax'⟩ := qSl HL S 1; obtain ⟨A', cap', rfl, hcap', hmax'⟩ := qSl HL S 2; obtain ⟨A', cap', rfl, hcap', hmax'⟩ := qSl HL S 3) | (refine qal HL S zSMx ?_; clear F S HL; intro g11 w L HL S F) | (refine qal HL S zMx ?_; clear F S HL; intro g12 w L HL S F) | (refine qst HL S 0 ?_; clear F S HL; intro w L HL S F) | (refine qst HL S 1 ?_; clear F S HL; intro w L HL S F) | (refine qst HL S 2 ?_; clear F S HL; intro w L HL S F))
  clear CM
  (rw [HL.out] at S; have T := (S.toBox (p := 18) rfl); clear S HL F; have S := T; clear T; (try simp only [List.set_cons_zero, List.set_cons_succ] at S); obtain ⟨L, hM, T⟩ := st_name S; clear S; have S := T; clear T; have HL := Lib.hid hM; clear hM; have F := qFc HL S)
  rw [HL.out] at S
  have T := S.sel (M := .box g6 _ _ :: _) (Sel.cons 18 rfl (Sel.tail (.refl _)))
  clear S HL F
  have S := T
  clear T
  simp only [List.eraseIdx_cons_succ, List.eraseIdx_cons_zero] at S
  obtain ⟨L, hM, T⟩ := st_name S; clear S; have S := T; clear T; have HL := Lib.hid hM; clear hM; have F := qFc HL S
  have hT := congrArg (List.drop 1) HL.out; simp only [List.drop_succ_cons, List.drop_zero] at hT; obtain ⟨L1, hL1⟩ : ∃ M, M = L.drop 1 := ⟨_, rfl⟩; rw [← hL1] at hT; have HL0 := Lib.hid hT; have S1 := S.sub (List.drop_sublist 1 L); rw [← hL1] at S1; have F0 := qFc HL0 S1; clear S1 hL1 hT; refine wp_region_tree (S := fun w' => St w0 w' L1) (.calm 0 (.calm 2 (.calm 3 (.calm 5 (.calm 6 (.calm 8 (.act 1 (.act 4 (.act 7 (.act 9 (.calm 10 (.calm 11 .fin)) .stop) .stop) .stop) .stop))))))) (by kernel_rfl) (by kernel_rfl) (by kernel_rfl) (by intro c a d v w h; cases d <;> exact h) ?_; replace S := S.drew
  repeat (first | refine qTb6 ?_ | refine qCa ?_ | refine qAn ?_ | refine qSk ?_ | (refine tree_act rfl rfl ?_ tree_stop; intro K hK; (refine qsw HL S 1 ?_; clear F S HL; intro w L HL S F); (refine qKo hK ?_; clear hK K)) | (refine tree_act rfl rfl ?_ tree_stop; intro K hK; (refine wp_emptyT S _ rfl 3 Tryz.underlying23 infoInt ?_; clear F S; intro gl w L hM S; replace HL := qNm HL hM; clear hM; have F := qFc HL S); (refine qKo hK ?_; clear hK K)) | (refine tree_act rfl rfl ?_ tree_stop; intro K hK; (refine wp_append_see S _ _ _ rfl 0 3 _ 1 8 Tryz.underlying23 infoInt rfl (by omega) _ _ _ rfl (atOf HL rfl) _ _ _ rfl (by exact (Sees.row S qAt)) (ints_one _) (by simp only [maxLen]; omega) (by omega) ?_; clear F S; intro u' w L hM S; replace HL := qNm HL hM; clear hM; have F := qFc HL S); (refine qKo hK ?_; clear hK K)) | (refine tree_act rfl rfl ?_ tree_stop; intro K hK; go_wp2_with (first | fail); (refine qKo hK ?_; clear hK K)))
  refine tree_fin ?_
  go_wp2
  refine ret3 rfl (resCell S HL 1 rfl rfl (by kernel_rfl)) (show _ = _ from rfl) (show _ = _ from rfl) rfl ?_
  have e : ints (yd ++ ye) = ints yd ++ ints ye := ints_append _ _
  rw [e]
  exact ⟨_, _, _, rfl, (by rw [HL.out] at S; exact S.sel (by exact qSel))⟩
theorem C_spec_Product_bad (x y : SMx) (u v p q : Value) (seed : Int) (w0 : World)
    (hu : Ints w0 u x.a.xs) (hv : Ints w0 v x.b.xs) (hp : Ints w0 p y.a.xs) (hq : Ints w0 q y.b.xs) (n1 : x.a.xs.length ≤ 1048576) (n2 : x.b.xs.length ≤ 1048576) (n3 : y.a.xs.length ≤ 1048576) (n4 : y.b.xs.length ≤ 1048576) (hok : prodOk x y seed = false) :
    Calls Tryz.prog 90 #[.agg #[.int .i64 (x).a.r, .int .i64 (x).a.c, u, .int .i64 (x).b.r, .int .i64 (x).b.c, v], .agg #[.int .i64 (y).a.r, .int .i64 (y).a.c, p, .int .i64 (y).b.r, .int .i64 (y).b.c, q], .int .i64 seed] w0 (MakesScl w0 ⟨SMx.zero, [], 0⟩) := by
  obtain ⟨⟨r, c, xs⟩, ⟨r', c', ys⟩⟩ := x
  obtain ⟨⟨rc, cc, us⟩, ⟨rc', cc', vs⟩⟩ := y
  dsimp only at hu hv hp hq n1 n2 n3 n4 ⊢
  unfold MakesScl
  have COX := fun w h h' => C_l1OwnSharedMatrix r c xs r' c' ys u v w h h' n1 n2
  have COY := fun w h h' => C_l1OwnSharedMatrix rc cc us rc' cc' vs p q w h h' n3 n4
  unfold MakesSMx at COX COY
  have HU := Lib.hid hu
  have HV := Lib.hid hv
  have HP := Lib.hid hp
  have HQ := Lib.hid hq
  have CV : ∀ w : World, Calls Tryz.prog 44 #[.int .i64 seed, .int .i64 1, .int .i64 2147483646] w fun e w' => e = .returned (.bool (seedOk seed)) ∧ w = w' := fun w => C_spec_l1In seed 1 2147483646 w
  have hok' : (((likeMx ⟨r, c, xs⟩ ⟨r', c', ys⟩ && likeMx ⟨rc, cc, us⟩ ⟨rc', cc', vs⟩) && decide (c = rc)) && seedOk seed) = false := hok
  generalize seedOk seed = bs at CV hok'
  clear hok hu hv hp hq n1 n2 n3 n4
  obtain ⟨L, HL, S⟩ := st_start w0; have F : True := trivial
  go_enter Tryz.func90, Tryz.ntmps90
  go_upto_region 1 with (first | (refine qbd 3 HL S ?_; clear F S HL; intro gx w L HL S F) | (refine qbd 4 HL S ?_; clear F S HL; intro gy w L HL S F) | (refine qal HL S zSMx ?_; clear F S HL; intro g6 w L HL S F))
  go_upto_region 3 with (first | refine qLb6 S ?_ | (go_at_call 42; refine (COX _ (HU.out.at_ S) (HV.out.at_ S)).mono ?_; rintro e w ⟨u, v, rfl, T0⟩; have hX := qcl HL S T0; clear F S HL T0; obtain ⟨L, HL, S, F⟩ := hX; obtain ⟨A', cap', rfl, hcap', hmax'⟩ := qSl HL S 0; obtain ⟨A', cap', rfl, hcap', hmax'⟩ := qSl HL S 1) | (go_at_call 42; refine (COY _ (HP.out.at_ S) (HQ.out.at_ S)).mono ?_; rintro e w ⟨u, v, rfl, T0⟩; have hX := qcl HL S T0; clear F S HL T0; obtain ⟨L, HL, S, F⟩ := hX; obtain ⟨A', cap', rfl, hcap', hmax'⟩ := qSl HL S 0; obtain ⟨A', cap', rfl, hcap', hmax'⟩ := qSl HL S 1) | (refine qst HL S 4 ?_; clear F S HL; intro w L HL S F) | (refine qst HL S 5 ?_; clear F S HL; intro w L HL S F))
  clear COX COY
  cases h1 : likeMx ⟨r, c, xs⟩ ⟨r', c', ys⟩ with
  | false =>
    have H1 := Lib.hid h1
    clear hok' h1
    go_upto_region 4 with (first | refine qLb6 S ?_ | (go_at_call 43; refine qGr S (C_spec_SharedMatrixValid _ _ _ _ _ _ _ _ _ _ (by exact (Sees.row S qAt).ints) (by exact (Sees.row S qAt).ints) (by first | exact H1.out)) ?_; clear S; intro w S))
    go_wp2_with (first | (refine wpList_empty rfl S _ rfl 3 Tryz.underlying23 infoInt ?_; clear F S; intro g w L hM S; replace HL := qNm HL hM; clear hM; have F := qFc HL S) | (refine qst HL S 5 ?_; clear F S HL; intro w L HL S F))
    refine ret3 rfl (resCell S HL 5 rfl rfl (by kernel_rfl)) (show _ = _ from rfl) (show _ = _ from rfl) rfl ?_
    exact ⟨_, _, _, rfl, S.openScl (p := 0) (atOf HL rfl)⟩
  | true =>
  cases h2 : likeMx ⟨rc, cc, us⟩ ⟨rc', cc', vs⟩ with
  | false =>
    have H1 := Lib.hid h1
    have H2 := Lib.hid h2
    clear hok' h1 h2
    go_upto_region 4 with (first | refine qLb6 S ?_ | (go_at_call 43; refine qGr S (C_spec_SharedMatrixValid _ _ _ _ _ _ _ _ _ _ (by exact (Sees.row S qAt).ints) (by exact (Sees.row S qAt).ints) (by first | exact H1.out | exact H2.out)) ?_; clear S; intro w S))
    go_wp2_with (first | (refine wpList_empty rfl S _ rfl 3 Tryz.underlying23 infoInt ?_; clear F S; intro g w L hM S; replace HL := qNm HL hM; clear hM; have F := qFc HL S) | (refine qst HL S 5 ?_; clear F S HL; intro w L HL S F))
    refine ret3 rfl (resCell S HL 5 rfl rfl (by kernel_rfl)) (show _ = _ from rfl) (show _ = _ from rfl) rfl ?_
    exact ⟨_, _, _, rfl, S.openScl (p := 0) (atOf HL rfl)⟩
  | true =>
  have H1 := Lib.hid h1
  have H2 := Lib.hid h2
  rw [h1, h2, Bool.true_and, Bool.true_and] at hok'
  clear h1 h2
  by_cases h3 : c = rc
  · subst h3
    rw [decide_eq_true rfl, Bool.true_and] at hok'
    subst hok'
    go_upto_region 4 with (first | refine qLb6 S ?_ | (go_at_call 44; refine qPu (CV _) ?_) | (go_at_call 43; refine qGr S (C_spec_SharedMatrixValid _ _ _ _ _ _ _ _ _ _ (by exact (Sees.row S qAt).ints) (by exact (Sees.row S qAt).ints) (by first | exact H1.out | exact H2.out)) ?_; clear S; intro w S))
    go_wp2_with (first | (refine wpList_empty rfl S _ rfl 3 Tryz.underlying23 infoInt ?_; clear F S; intro g w L hM S; replace HL := qNm HL hM; clear hM; have F := qFc HL S) | (refine qst HL S 5 ?_; clear F S HL; intro w L HL S F))
    refine ret3 rfl (resCell S HL 5 rfl rfl (by kernel_rfl)) (show _ = _ from rfl) (show _ = _ from rfl) rfl ?_
    exact ⟨_, _, _, rfl, S.openScl (p := 0) (atOf HL rfl)⟩
  · have hne : (c == rc) = false := by rw [beq_eq_false_iff_ne]; exact h3
    clear hok'
    go_upto_region 4 with (first | refine qLb6 S ?_ | (go_at_call 43; refine qGr S (C_spec_SharedMatrixValid _ _ _ _ _ _ _ _ _ _ (by exact (Sees.row S qAt).ints) (by exact (Sees.row S qAt).ints) (by first | exact H1.out | exact H2.out)) ?_; clear S; intro w S))
    go_wp2_with (first | (refine wpList_empty rfl S _ rfl 3 Tryz.underlying23 infoInt ?_; clear F S; intro g w L hM S; replace HL := qNm HL hM; clear hM; have F := qFc HL S) | (refine qst HL S 5 ?_; clear F S HL; intro w L HL S F))
    refine ret3 rfl (resCell S HL 5 rfl rfl (by kernel_rfl)) (show _ = _ from rfl) (show _ = _ from rfl) rfl ?_
    exact ⟨_, _, _, rfl, S.openScl (p := 0) (atOf HL rfl)⟩
theorem C_spec_ProductShared (x y : SMx) (u v p q : Value) (seed : Int) (z : Scd) (w0 : World)
    (hu : Ints w0 u x.a.xs) (hv : Ints w0 v x.b.xs) (hp : Ints w0 p y.a.xs) (hq : Ints w0 q y.b.xs) (n1 : x.a.xs.length ≤ 1048576) (n2 : x.b.xs.length ≤ 1048576) (n3 : y.a.xs.length ≤ 1048576) (n4 : y.b.xs.length ≤ 1048576) (hz : prodS x y seed = z) :
    Calls Tryz.prog 90 #[.agg #[.int .i64 (x).a.r, .int .i64 (x).a.c, u, .int .i64 (x).b.r, .int .i64 (x).b.c, v], .agg #[.int .i64 (y).a.r, .int .i64 (y).a.c, p, .int .i64 (y).b.r, .int .i64 (y).b.c, q], .int .i64 seed] w0 (MakesScl w0 z) := by
  subst hz
  cases hok : prodOk x y seed with
  | false => rw [prodS_not hok]; exact C_spec_Product_bad x y u v p q seed w0 hu hv hp hq n1 n2 n3 n4 hok
  | true =>
    have h' := hok
    simp only [prodOk, Bool.and_eq_true, decide_eq_true_eq] at h'
    obtain ⟨⟨⟨hx, hy⟩, hc⟩, hs⟩ := h'
    obtain ⟨R, K, N, xs, ys, rfl, r1, r2, c1, c2, hRC, hN, hN', hN2, a1, a2⟩ := smx_nat hx
    obtain ⟨K', D, M, us, vs, rfl, p1, p2, q1, q2, hPQ, hM, hM', hM2, a3, a4⟩ := smx_nat hy
    obtain rfl : K' = K := by dsimp only at hc; omega
    unfold prodS
    rw [if_pos hok]
    exact C_spec_Product_good ⟨xs, ys, us, vs, R, K', D, seed⟩ u v p q w0 hs r1 r2 c1 c2 q1 q2 (hN.trans hRC.symm) (hN'.trans hRC.symm) (hM.trans hPQ.symm) (hM'.trans hPQ.symm) a1 a2 a3 a4 hu hv hp hq
theorem scd_few {z : Scd} (h : z.m.ok = true ∨ z.m = SMx.zero) : z.m.a.xs.length ≤ 25 ∧ z.m.b.xs.length ≤ 25 := by
  rcases h with h | h
  · obtain ⟨R, C, N, xs, ys, e, _, _, _, _, _, hN, hN', hN2, _⟩ := smx_nat h
    rw [e]
    exact ⟨by show xs.length ≤ 25; omega, by show ys.length ≤ 25; omega⟩
  · rw [h]
    exact ⟨Nat.zero_le _, Nat.zero_le _⟩
theorem prodS_kind (x y : SMx) (s : Int) : (prodS x y s).m.ok = true ∨ (prodS x y s).m = SMx.zero := by
  cases h : prodOk x y s with
  | false => rw [prodS_not h]; exact .inr rfl
  | true => exact .inl (prodS_join h).1
theorem mapS_kind (k : Int) (m : SMx) (s : Int) : (mapS k m s).m.ok = true ∨ (mapS k m s).m = SMx.zero := by
  cases h : mapOk k m s with
  | false => rw [mapS_not h]; exact .inr rfl
  | true => exact .inl (mapS_join h).1
theorem C_l15Cut (x y : SMx) (u v p q : Value) (seed : Int) (z : Scd) (w0 : World)
    (hu : Ints w0 u x.a.xs) (hv : Ints w0 v x.b.xs) (hp : Ints w0 p y.a.xs) (hq : Ints w0 q y.b.xs) (n1 : x.a.xs.length ≤ 1048576) (n2 : x.b.xs.length ≤ 1048576) (n3 : y.a.xs.length ≤ 1048576) (n4 : y.b.xs.length ≤ 1048576) (hz : cutS x y seed = z) :
    Calls Tryz.prog 45 #[.agg #[.int .i64 (x).a.r, .int .i64 (x).a.c, u, .int .i64 (x).b.r, .int .i64 (x).b.c, v], .agg #[.int .i64 (y).a.r, .int .i64 (y).a.c, p, .int .i64 (y).b.r, .int .i64 (y).b.c, q], .int .i64 seed] w0 (MakesScl w0 z) := by
  have hz' : z = ⟨(mapS 1 (prodS x y seed).m (prodS x y seed).last).m, (prodS x y seed).os ++ (mapS 1 (prodS x y seed).m (prodS x y seed).last).os, (mapS 1 (prodS x y seed).m (prodS x y seed).last).last⟩ := hz.symm
  have f1 := prodS_few x y seed
  have k1 := scd_few (prodS_kind x y seed)
  have CP := fun w h1 h2 h3 h4 => C_spec_ProductShared x y u v p q seed _ w h1 h2 h3 h4 n1 n2 n3 n4 rfl
  generalize prodS x y seed = z1 at *
  have f2 := mapS_few 1 z1.m z1.last
  have CM := fun u v w h h' => C_spec_MapShared 1 z1.m u v z1.last _ w h h' (by omega) (by omega) rfl
  generalize mapS 1 z1.m z1.last = z2 at *
  subst hz'
  unfold MakesScl at CP CM ⊢
  dsimp only
  rw [List.length_append]
  have HU := Lib.hid hu
  have HV := Lib.hid hv
  have HP := Lib.hid hp
  have HQ := Lib.hid hq
  have HF1 := Lib.hid f1
  have HF2 := Lib.hid f2
  clear hz hu hv hp hq n1 n2 n3 n4 k1 f1 f2
  obtain ⟨L, HL, S⟩ := st_start w0; have F : True := trivial
  go_enter Tryz.func45, Tryz.ntmps45
  go_upto_region 1 with (first | (refine qbd 3 HL S ?_; clear F S HL; intro gx w L HL S F) | (refine qbd 4 HL S ?_; clear F S HL; intro gy w L HL S F) | (refine qal HL S zSMx ?_; clear F S HL; intro g6 w L HL S F))
  (rw [HL.out] at S; have T := (((S.toObj (p := 0) rfl).toObj (p := 1) rfl).toObj (p := 2) rfl); clear S HL F; have S := T; clear T; (try simp only [List.set_cons_zero, List.set_cons_succ] at S); obtain ⟨L, hM, T⟩ := st_name S; clear S; have S := T; clear T; have HL := Lib.hid hM; clear hM; have F := qFc HL S)
  go_upto_region 2 with (first | refine qLo6 S ?_ | (go_at_call 90; refine (CP _ (HU.out.at_ S) (HV.out.at_ S) (HP.out.at_ S) (HQ.out.at_ S)).mono ?_; rintro e w ⟨u1, v1, o1, rfl, T0⟩; have hX := qcl HL S T0; clear F S HL T0; obtain ⟨L, HL, S, F⟩ := hX; obtain ⟨A', cap', rfl, hcap', hmax'⟩ := qSl HL S 1; obtain ⟨A', cap', rfl, hcap', hmax'⟩ := qSl HL S 2) | (refine qal HL S zSMx ?_; clear F S HL; intro g9 w L HL S F) | (refine qst HL S 0 ?_; clear F S HL; intro w L HL S F))
  (rw [HL.out] at S; have T := (S.toObj (p := 0) rfl); clear S HL F; have S := T; clear T; (try simp only [List.set_cons_zero, List.set_cons_succ] at S); obtain ⟨L, hM, T⟩ := st_name S; clear S; have S := T; clear T; have HL := Lib.hid hM; clear hM; have F := qFc HL S)
  clear CP
  go_upto_region 3 with (first | refine qLo6 S ?_ | (go_at_call 47; refine (CM _ _ _ (Sees.row S qAt) (Sees.row S qAt)).mono ?_; rintro e w ⟨u1, v1, o1, rfl, T0⟩; have hX := qcl HL S T0; clear F S HL T0; obtain ⟨L, HL, S, F⟩ := hX; obtain ⟨A', cap', rfl, hcap', hmax'⟩ := qSl HL S 1; obtain ⟨A', cap', rfl, hcap', hmax'⟩ := qSl HL S 2) | (refine qal HL S zSMx ?_; clear F S HL; intro g12 w L HL S F) | (refine qst HL S 0 ?_; clear F S HL; intro w L HL S F))
  clear CM
  (rw [HL.out] at S; have T := (S.toBox (p := 8) rfl); clear S HL F; have S := T; clear T; (try simp only [List.set_cons_zero, List.set_cons_succ] at S); obtain ⟨L, hM, T⟩ := st_name S; clear S; have S := T; clear T; have HL := Lib.hid hM; clear hM; have F := qFc HL S)
  rw [HL.out] at S
  have T := S.sel (M := .box g6 _ _ :: .row _ _ _ z1.os.length (ints z1.os) :: _) (Sel.cons 8 rfl (Sel.cons 5 rfl (Sel.tail (.refl _))))
  clear S HL F
  have S := T
  clear T
  simp only [List.eraseIdx_cons_succ, List.eraseIdx_cons_zero] at S
  obtain ⟨L, hM, T⟩ := st_name S; clear S; have S := T; clear T; have HL := Lib.hid hM; clear hM; have F := qFc HL S
  have hf1 := HF1.out
  have hf2 := HF2.out
  have hT := congrArg (List.drop 2) HL.out; simp only [List.drop_succ_cons, List.drop_zero] at hT; obtain ⟨L1, hL1⟩ : ∃ M, M = L.drop 2 := ⟨_, rfl⟩; rw [← hL1] at hT; have HL0 := Lib.hid hT; have S1 := S.sub (List.drop_sublist 2 L); rw [← hL1] at S1; have F0 := qFc HL0 S1; clear S1 hL1 hT; refine wp_region_tree (S := fun w' => St w0 w' L1) (qcs 0 3 (.calm 4 (.act 3 (.act 5 (.calm 6 (.calm 7 .fin)) .stop) .stop))) (by kernel_rfl) (by kernel_rfl) (by kernel_rfl) (by intro c a d v w h; cases d <;> exact h) ?_; dsimp only [qcs, Nat.reduceAdd]; replace S := S.drew
  repeat (first | refine qTb6 ?_ | refine qCa ?_ | refine qAn ?_ | refine qSk ?_ | (refine tree_act rfl rfl ?_ tree_stop; intro K hK; (refine qsw HL S 0 ?_; clear F S HL; intro w L HL S F); (refine qKo hK ?_; clear hK K)) | (refine tree_act rfl rfl ?_ tree_stop; intro K hK; (refine wp_append_see S _ _ _ rfl 1 3 _ 1 8 Tryz.underlying23 infoInt rfl (by omega) _ _ _ rfl (atOf HL rfl) _ _ _ rfl (by exact (Sees.row S qAt)) (ints_one _) (by simp only [maxLen]; omega) (by omega) ?_; clear F S; intro u' w L hM S; replace HL := qNm HL hM; clear hM; have F := qFc HL S); (refine qKo hK ?_; clear hK K)) | (refine tree_act rfl rfl ?_ tree_stop; intro K hK; go_wp2_with (first | fail); (refine qKo hK ?_; clear hK K)))
  refine tree_fin ?_
  go_wp2
  refine ret3 rfl (resCell S HL 0 rfl rfl (by kernel_rfl)) (show _ = _ from rfl) (show _ = _ from rfl) rfl ?_
  rw [ints_append]
  exact ⟨_, _, _, rfl, (by rw [HL.out] at S; exact S.sel (by exact qSel))⟩
end
section
attribute [local irreducible] wpList Oper.wp Calls
theorem ok_few {m : SMx} (h : m.ok = true) : m.a.xs.length ≤ 25 ∧ m.b.xs.length ≤ 25 := by
  obtain ⟨R, C, N, xs, ys, rfl, _, _, _, _, _, hN, hN', hN2, _⟩ := smx_nat h
  exact ⟨by show xs.length ≤ 25; omega, by show ys.length ≤ 25; omega⟩
section
variable {P : Program} {w0 w : World} {a : Act} {L : List Ent} {o : Oper} {ops : Array Oper} {K : Act → World → Prop} {Q : Exit → Act → World → Prop}
theorem St.rangeR {g n cap size : Nat} {t : TypeId} {xs : List Value} {p : Nat} (S : St w0 w L) (h : At L p (.row t size (.slice (some ⟨g, 0, none⟩) n cap) n xs)) (hl : xs.length ≤ n * size) (i k : Nat) : w.rangeAt g i ((xs.drop i).take k) := fun j v hv => by
  rw [List.getElem?_take] at hv
  split at hv
  · rw [List.getElem?_drop] at hv
    have hlt : i + j < xs.length := (List.getElem?_eq_some_iff.1 hv).1
    rw [S.rowCell h _ (by omega)]; exact hv
  · cases hv
theorem tree_load_row {j n' cap size : Nat} {ro : List Oper} {T : Tree} (S : St w0 w L) (ho : ops.toList.drop j = o :: ro) (hl : lateOp ops j = false) (hw : Region.wanted o (yielded ops a.tmps) = true)
    (ty : TypeId) (x : Operand) (hop : o.op = .load ty x) (p g : Nat) (t : TypeId) (xs : List Value) (i n : Nat) (hp : At L p (.row t size (.slice (some ⟨g, 0, none⟩) n' cap) n' xs)) (hlen : xs.length = n' * size)
    (hx : a.eval x = .pointer (some ⟨g, i, none⟩)) (vs : List Value) (hn : vs.length = n) (hk : structAt P ty n = true) (hvs : (xs.drop i).take n = vs)
    (h : wpTree P ops Q (fun w' => St w0 w' L) T (a.put o.dst (.agg vs.toArray)) w) : wpTree P ops Q (fun w' => St w0 w' L) (.calm j T) a w := by
  obtain ⟨fs, hu, hi⟩ := structAt_parts hk
  subst hn
  refine tree_calm S ho hl hw (fun w' S' => ?_) h
  unfold execOp
  simp only [hop, hx, Instr.loadAt, Instr.sureAddr, Sem.run_bind, Sem.run_pure, Result.andThen_ok, run_loadVar_mid w' g i ty vs _ (hvs ▸ St.rangeR S' hp (Nat.le_of_eq hlen) i vs.length) hu rfl hi]
theorem qTr6 {j : Nat} {ro : List Oper} {T : Tree} {a' : Act} {c0 c1 c2 c3 c4 c5 : Value} {ty : TypeId} {x : Operand} {p g : Nat} {t : TypeId} {cs : List Value} {i : Nat} {n' cap size : Nat} (k : wpTree P ops Q (fun w' => St w0 w' L) T a' w) (hS : St w0 w L := by (first | exact S | (refine S.sub (subL HL0 HL ?_); (repeat (first | exact List.Sublist.refl _ | apply List.Sublist.cons)); done))) (ho : ops.toList.drop j = o :: ro := by exact rfl) (hl : lateOp ops j = false := by decide +kernel) (hw : Region.wanted o (yielded ops a.tmps) = true := by exact rfl) (hop : o.op = .load ty x := by exact rfl) (hx : a.eval x = .pointer (some ⟨g, i, none⟩) := by exact rfl) (hp : At L p (.row t size (.slice (some ⟨g, 0, none⟩) n' cap) n' cs) := by exact qAt0) (hlen : cs.length = n' * size := by exact rfl)
    (hk : structAt P ty 6 = true := by decide +kernel) (hvs : (cs.drop i).take 6 = [c0, c1, c2, c3, c4, c5] := by exact rfl) (ha : a.put o.dst (.agg ([c0, c1, c2, c3, c4, c5] : List Value).toArray) = a' := by ((try simp only [Act.put, qP0, qP1, qP2]); exact rfl)) : wpTree P ops Q (fun w' => St w0 w' L) (.calm j T) a w := tree_load_row hS ho hl hw ty x hop p g t cs i 6 hp hlen hx [c0, c1, c2, c3, c4, c5] rfl hk hvs (ha ▸ k)
end
end
section
theorem C_spec_RowSums (R C : Nat) (xs : List Int) (u : Value) (w0 : World) (h : Ints w0 u xs) (r1 : 1 ≤ R) (r2 : R ≤ 5) (c1 : 1 ≤ C) (c2 : C ≤ 5) (hl : xs.length = R * C) (a1 : xs.all rv = true) :
    Calls Tryz.prog 48 #[.agg #[.int .i64 R, .int .i64 C, u]] w0 (MakesMx w0 R 1 (tab R (sumV xs C))) := by
  obtain ⟨N, hN⟩ : ∃ N, R * C = N := ⟨_, rfl⟩
  have b0 : N ≤ 25 := by
    have : R * C ≤ 5 * 5 := Nat.mul_le_mul r2 c2
    omega
  have p0 : 0 < N := by rw [← hN]; exact Nat.mul_pos r1 c1
  unfold MakesMx
  rw [tab_length]
  have HU := Lib.hid h
  have H1 := Lib.hid (Mx.ok_of r1 r2 c1 c2 hl a1)
  obtain ⟨_, A1, k1, rfl, hk1, hm1', _⟩ := h
  rw [hN] at hl
  have HL1 := Lib.hid hl
  have HN := Lib.hid hN
  have HX := Lib.hid a1
  have CO1 := fun w h => C_l1OwnMatrix R C xs (.slice A1 xs.length k1) w h (by omega)
  unfold MakesMx at CO1
  rw [HL1.out] at HU CO1 hk1 ⊢
  clear hl hN a1
  obtain ⟨L, HL, S⟩ := st_start w0; have F : True := trivial
  go_enter Tryz.func48, Tryz.ntmps48
  go_upto_region 1 with (first | (refine qbd 1 HL S ?_; clear F S HL; intro ga w L HL S F) | (refine qal HL S zMx ?_; clear F S HL; intro gr w L HL S F))
  go_upto_region 2 with (first | (refine qst HL S 2 ?_; clear F S HL; intro w L HL S F) | (go_at_call 88; refine (CO1 _ (HU.out.at_ S)).mono ?_; rintro e w ⟨u, rfl, T0⟩; have hX := qcl HL S T0; clear F S HL T0; obtain ⟨L, HL, S, F⟩ := hX; obtain ⟨A', cap', rfl, hcap', hmax'⟩ := qSl HL S 0))
  obtain ⟨g1, q1, e1, hq1, hs1⟩ := S.rowAt (p := 0) (atOf HL rfl) p0
  rw [e1] at HL ⊢
  clear e1 F
  have F := factsAll HL S
  simp only [factsOf, cellsFrom, and_true, true_and, Nat.reduceAdd] at F
  go_upto_region 4 with (first | (go_at_call 95; refine qGr S (C_specValid' _ _ _ _ _ _ (Sees.row S qAt) HL1.out H1.out) ?_; clear S; intro w S))
  go_upto_region 5 with (first | (refine qal HL S zMx ?_; clear F S HL; intro g5 w L HL S F) | (refine qst HL S 0 ?_; clear F S HL; intro w L HL S F))
  rw [HL.out] at S
  replace S := S.nilRow 3 1
  clear HL F CO1
  obtain ⟨L, hM, T⟩ := st_name S; clear S; have S := T; clear T; have HL := Lib.hid hM; clear hM; have F := qFc HL S
  go_wp2
  go_loopw [4] (fun i wr => ∃ (j : Nat) (E1 : Option Addr) (m : Nat) (L : List Ent), j ≤ R ∧ i = .int .i64 j ∧ Hid (L = [.row 3 1 (.slice E1 j m) j (ints (tab j (sumV xs C))), .box g5 30 [.int .i64 R, .int .i64 1, .slice E1 j m], .row 3 1 (.slice (some ⟨g1, 0, none⟩) N q1) N (ints xs), .box gr 30 [.int .i64 0, .int .i64 0, .slice none 0 0], .box ga 30 [.int .i64 R, .int .i64 C, .slice (some ⟨g1, 0, none⟩) N q1]]) ∧ St w0 wr L) (fun i _ => R - (intOf i).toNat)
  case atStart => exact ⟨0, none, 0, L, Nat.zero_le _, rfl, HL, S⟩
  case round =>
    clear F HL S
    obtain ⟨j, E1, m, L, hj, rfl, HL, S⟩ := hrel
    have F := factsAll HL S
    simp only [factsOf, cellsFrom, and_true, true_and, Nat.reduceAdd] at F
    by_cases hlt : j < R
    · obtain ⟨m1, hm1⟩ : ∃ m1, j * C = m1 := ⟨_, rfl⟩
      have HM1 := Lib.hid hm1
      have w1 : (j : Int) * (C : Int) = (m1 : Int) := by rw [← hm1, Int.natCast_mul]
      clear hm1
      go_wp2
      go_loopw [6, 5] (fun i s wr => ∃ (k : Nat), k ≤ C ∧ i = .int .i64 k ∧ s = .int .i64 (rowTo xs C j k) ∧ St w0 wr L) (fun i _ _ => C - (intOf i).toNat)
      case atStart => exact ⟨0, Nat.zero_le _, rfl, rfl, S⟩
      case round =>
        clear S
        obtain ⟨k, hk, rfl, rfl, S⟩ := hrel
        by_cases hlt2 : k < C
        · have z1 : m1 + k < N := by rw [← HM1.out, ← HN.out]; exact cell_lt hlt hlt2
          have c0 := (S.rowCell (p := 2) (atOf HL rfl) (m1 + k) (by omega)).trans (ints_getD xs (m1 + k) (by rw [HL1.out]; exact z1))
          have bs := rowTo_bd HX.out C j k
          have bx := rv_bd (getD_rv HX.out (m1 + k))
          have e1 : rowTo xs C j (k + 1) = rowTo xs C j k + xs.getD (m1 + k) 0 := by rw [← HM1.out]; rfl
          generalize rowTo xs C j k = s at e1 bs ⊢
          generalize xs.getD (m1 + k) 0 = x at *
          have hs2 : s ≤ 100000000 := by omega
          have E1' := Lib.hid e1
          clear e1
          go_wp2
          go_roundw
          case rel => exact ⟨k + 1, by omega, by go_num, by rw [E1'.out], S⟩
          case measure => simp [intOf]; omega
        · obtain rfl : k = C := by omega
          have hz : ro (rowTo xs k j k) = sumV xs k j := rfl
          have ea := tab_succ j (sumV xs k)
          generalize rowTo xs k j k = s at *
          generalize sumV xs k j = z at hz ea
          have HZ := Lib.hid hz
          have EA := Lib.hid ea
          clear hz ea
          go_upto_region 13 with fail
          have hT := congrArg List.tail HL.out; simp only [List.tail_cons] at hT; obtain ⟨L1, hL1⟩ : ∃ M, M = L.tail := ⟨_, rfl⟩; rw [← hL1] at hT; have HL0 := Lib.hid hT; have S1 := S.sub (List.tail_sublist L); rw [← hL1] at S1; have F0 := qFc HL0 S1; clear S1 hL1 hT; skip; refine wp_region_tree (S := fun w' => St w0 w' L1) (.calm 0 (.calm 1 (.calm 2 (.act 3 (.act 4 (.act 5 (.calm 6 (.act 7 .fin .stop)) .stop) .stop) .stop)))) (by kernel_rfl) (by kernel_rfl) (by kernel_rfl) (by intro c a d v w h; cases d <;> exact h) ?_; replace S := S.drew
          repeat (first | refine qCa ?_ | refine qAn ?_ | refine qSk ?_ | (refine tree_act rfl rfl ?_ tree_stop; intro K hK; (refine wp_lit1 S _ _ rfl 3 Tryz.underlying23 infoInt _ rfl ?_; clear F S; intro g w L hM S; replace HL := qNm HL hM; clear hM; have F := qFc HL S); (refine qKo hK ?_; clear hK K)) | (refine tree_act rfl rfl ?_ tree_stop; intro K hK; (refine wp_append_box S _ _ _ rfl 3 _ 1 8 Tryz.underlying23 infoInt rfl (by omega) 1 _ _ _ rfl (atOf HL rfl) (by omega) 0 _ _ _ _ _ rfl (atOf HL rfl) rfl rfl rfl rfl ?_; clear F S; intro u w L hM S; replace HL := qNm HL hM; clear hM; have F := qFc HL S; obtain ⟨A', cap', rfl, hcap', hmax'⟩ := qSl HL S 1); (refine qKo hK ?_; clear hK K)) | (refine tree_act rfl rfl ?_ tree_stop; intro K hK; (refine qsw HL S 2 ?_; clear F S HL; intro w L HL S F); (refine qKo hK ?_; clear hK K)) | (refine tree_act rfl rfl ?_ tree_stop; intro K hK; go_wp2_with (first | (go_at_call 96; refine qPu (C_l1Ring' _ _ _ (by exact HZ.out)) ?_)); (refine qKo hK ?_; clear hK K)))
          refine tree_fin ?_
          clear HL0 F0
          go_wp2
          go_roundw
          case rel =>
            have e1 : ints (tab j (sumV xs k)) ++ [.int .i64 z] = ints (tab (j + 1) (sumV xs k)) := by rw [EA.out, ints_append]; rfl
            rw [HL.out, e1] at S
            exact ⟨j + 1, _, _, _, by omega, by go_num, Lib.hid rfl, S.sub (.cons _ (.refl _))⟩
          case measure => simp [intOf]; omega
    · obtain rfl : j = R := by omega
      go_wp2_with (first | (refine qst HL S 3 ?_; clear F S HL; intro w L HL S F))
      ((try simp only [Exit.inBlock, Exit.then]); refine ret1 rfl (resCell S HL 3 rfl rfl (by kernel_rfl)) rfl ?_)
      exact ⟨_, rfl, (by rw [HL.out] at S; exact S.sub (by repeat (first | exact .refl _ | exact List.nil_sublist _ | apply List.Sublist.cons_cons | apply List.Sublist.cons)))⟩
end
end Go.Proofs.YtjgfjfjboimgdaaGreat
