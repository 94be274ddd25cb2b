/- SdI SdJ StC -/
import Derived.Test.YtjgfjfjboimgdaaGreatY23
import Derived.Test.YtjgfjfjboimgdaaGreatY39
namespace Go.Proofs.YtjgfjfjboimgdaaGreat
set_option linter.unusedSimpArgs false
set_option linter.unusedVariables false
set_option linter.unusedSectionVars false
open Go Go.RowKit
set_option maxHeartbeats 8000000
set_option maxRecDepth 20000
section
attribute [local irreducible] wpList Oper.wp Calls
theorem C_spreadX (R D : Nat) (xs : List Int) (u : Value) (gx : Nat) (w0 : World) (h : Ints w0 u xs) (hl : xs.length = R) (r1 : 1 ≤ R) (r2 : R ≤ 5) (d1 : 1 ≤ D) (d2 : D ≤ 5) (hgx : gx < w0.heap.size) (hc : w0.cell? ⟨gx, 1, none⟩ = some (.int .i64 D)) :
    Calls Tryz.prog 118 #[.agg #[.int .i64 R, .int .i64 1, u], .pointer (some ⟨gx, 0, none⟩)] w0 (MakesMx w0 R D (tab (R * D) (spreadV xs D))) := by
  have CS := fun u w h => C_spread R D xs u R w h rfl r1 r2 d1 d2
  have H := Lib.hid h
  have HC := Lib.hid hc
  have HG := Lib.hid hgx
  unfold MakesMx
  rw [tab_length]
  generalize tab (R * D) (spreadV xs D) = zs at *
  generalize R * D = N at *
  obtain ⟨_, A, cap, rfl, hcap, hmax, _⟩ := h
  rw [hl] at H hcap ⊢
  have HX : Hid (Sees w0 1 (.slice A R cap) R (ints xs)) := Lib.hid (by have := H.out; unfold Ints at this; rw [hl] at this; exact this)
  clear H hc hgx hl
  obtain ⟨L, HL, S⟩ := st_start w0; have F : True := trivial
  go_enter Tryz.func118, Tryz.ntmps118
  go_upto_region 1 with (first | (refine qbd 2 HL S ?_; clear F S HL; intro g2 w L HL S F) | (refine qal HL S zMx ?_; clear F S HL; intro g3 w L HL S F))
  have c0 := (S.below.cell (p := ⟨gx, 1, none⟩) HG.out).trans HC.out
  go_wp2_with (first | refine qLb3 S ?_ | (go_at_call 119; refine (CS _ _ (HX.out.at_ S)).mono ?_; rintro e w ⟨u, rfl, T0⟩; have hX := qcl HL S T0; clear F S HL T0; obtain ⟨L, HL, S, F⟩ := hX; obtain ⟨A', cap', rfl, hcap', hmax'⟩ := qSl HL S 0) | (refine qst HL S 1 ?_; clear F S HL; intro w L HL S F))
  ((try simp only [Exit.inBlock, Exit.then]); refine ret1 rfl (resCell S HL 1 rfl rfl (by kernel_rfl)) rfl ?_)
  exact ⟨_, rfl, (by rw [HL.out] at S; exact S.sub (by repeat (first | exact .refl _ | exact List.nil_sublist _ | apply List.Sublist.cons_cons | apply List.Sublist.cons)))⟩
theorem C_each_Spread (R D : Nat) (xs ys : List Int) (u v : Value) (gx : Nat) (w0 : World) (h : Ints w0 u xs) (h' : Ints w0 v ys) (hl : xs.length = R) (hl' : ys.length = R) (r1 : 1 ≤ R) (r2 : R ≤ 5) (d1 : 1 ≤ D) (d2 : D ≤ 5) (hgx : gx < w0.heap.size) (hc : w0.cell? ⟨gx, 1, none⟩ = some (.int .i64 D)) :
    Calls Tryz.prog 56 #[.agg #[.int .i64 R, .int .i64 1, u, .int .i64 R, .int .i64 1, v], .func (.func 118) #[] #[.pointer (some ⟨gx, 0, none⟩)]] w0 (MakesSMx w0 R D (tab (R * D) (spreadV xs D)) R D (tab (R * D) (spreadV ys D))) := by
  have CA := fun u w h hg hc => C_spreadX R D xs u gx w h hl r1 r2 d1 d2 hg hc
  have CB := fun u w h hg hc => C_spreadX R D ys u gx w h hl' r1 r2 d1 d2 hg hc
  have H := Lib.hid h
  have H' := Lib.hid h'
  have HC := Lib.hid hc
  have HG := Lib.hid hgx
  unfold MakesMx at CA CB
  unfold MakesSMx
  generalize tab (R * D) (spreadV xs D) = zs at *
  generalize tab (R * D) (spreadV ys D) = zs' at *
  obtain ⟨_, A, cap, rfl, hcap, hmax, _⟩ := h
  obtain ⟨_, A2, cap2, rfl, hcap2, hmax2, _⟩ := h'
  clear hc hgx hl hl'
  obtain ⟨L, HL, S⟩ := st_start w0; have F : True := trivial
  go_enter Tryz.func56, Tryz.ntmps56
  go_wp2_with (first | (refine qbx HL S ?_; clear F S HL; intro g w L HL S F) | (refine qal HL S zSMx ?_; clear F S HL; intro g w L HL S F) | (refine qst HL S 0 ?_; clear F S HL; intro w L HL S F) | (refine qst HL S 1 ?_; clear F S HL; intro w L HL S F) | (refine qst HL S 2 ?_; clear F S HL; intro w L HL S F) | (refine qst HL S 3 ?_; clear F S HL; intro w L HL S F)  )
  have HL0 := HL; have F0 := F; refine wp_region_tree (S := fun w' => St w0 w' L) (qcs 0 3 (qcs 4 3 (.act 3 (.act 7 (.calm 8 (.act 9 .fin .stop)) .stop) .stop))) (by kernel_rfl) (by kernel_rfl) (by kernel_rfl) (by intro c a d v w h; cases d <;> exact h) ?_; dsimp only [qcs, Nat.reduceAdd]; replace S := S.drew
  repeat (first | refine qCa ?_ | refine qAn ?_ | refine qSk ?_ | (refine tree_act rfl rfl ?_ tree_stop; intro K hK; (refine qsw HL S 2 ?_; clear F S HL; intro w L HL S F); (refine qKo hK ?_; clear hK K)) | (refine tree_act rfl rfl ?_ tree_stop; intro K hK; go_wp2_with (first | (go_at_call 118; refine (CA _ _ (H.out.at_ S) (Nat.lt_of_lt_of_le HG.out S.below.size) ((S.below.cell (p := ⟨gx, 1, none⟩) HG.out).trans HC.out)).mono ?_; rintro e w ⟨u, rfl, T0⟩; have hX := qcl HL S T0; clear F S HL T0; obtain ⟨L, HL, S, F⟩ := hX; obtain ⟨A', cap', rfl, hcap', hmax'⟩ := qSl HL S 0) | (go_at_call 118; refine (CB _ _ (H'.out.at_ S) (Nat.lt_of_lt_of_le HG.out S.below.size) ((S.below.cell (p := ⟨gx, 1, none⟩) HG.out).trans HC.out)).mono ?_; rintro e w ⟨u, rfl, T0⟩; have hX := qcl HL S T0; clear F S HL T0; obtain ⟨L, HL, S, F⟩ := hX; obtain ⟨A', cap', rfl, hcap', hmax'⟩ := qSl HL S 0)); (refine qKo hK ?_; clear hK K)))
  refine tree_fin ?_
  go_wp2
  ((try simp only [Exit.inBlock, Exit.then]); refine ret1 rfl (resCell S HL 2 rfl rfl (by kernel_rfl)) rfl ?_)
  exact ⟨_, _, rfl, (by rw [HL.out] at S; exact S.sub (by repeat (first | exact .refl _ | exact List.nil_sublist _ | apply List.Sublist.cons_cons | apply List.Sublist.cons)))⟩
end
section
attribute [local irreducible] wpList Oper.wp Calls
theorem C_impl_AddS (x y : SMx) (u v a b : Value) (w0 : World) (hu : Ints w0 u x.a.xs) (hv : Ints w0 v x.b.xs) (ha : Ints w0 a y.a.xs) (hb : Ints w0 b y.b.xs) (hx : x.ok = true) (hy : y.ok = true) (hr : x.a.r = y.a.r) (hc : x.a.c = y.a.c) :
    Calls Tryz.prog 120 #[.agg #[.int .i64 (x).a.r, .int .i64 (x).a.c, u, .int .i64 (x).b.r, .int .i64 (x).b.c, v], .agg #[.int .i64 (y).a.r, .int .i64 (y).a.c, a, .int .i64 (y).b.r, .int .i64 (y).b.c, b]] w0 (MakesSMx w0 (sumMx x.a y.a).r (sumMx x.a y.a).c (sumMx x.a y.a).xs (sumMx x.b y.b).r (sumMx x.b y.b).c (sumMx x.b y.b).xs) := by
  obtain ⟨⟨r, c, xs⟩, ⟨r', c', ys⟩⟩ := x
  obtain ⟨⟨rc, cc, us⟩, ⟨rc', cc', vs⟩⟩ := y
  dsimp only at hr hc hu hv ha hb ⊢
  subst hr hc
  have H1 : Hid (likeMx ⟨r, c, xs⟩ ⟨r', c', ys⟩ = true) := Lib.hid hx
  have H2 : Hid (likeMx ⟨r, c, us⟩ ⟨rc', cc', vs⟩ = true) := Lib.hid hy
  obtain ⟨t1, h1⟩ : ∃ t, sumMx ⟨r, c, xs⟩ ⟨r, c, us⟩ = t := ⟨_, rfl⟩
  obtain ⟨t2, h2⟩ : ∃ t, sumMx ⟨r', c', ys⟩ ⟨rc', cc', vs⟩ = t := ⟨_, rfl⟩
  rw [h1, h2]
  have CA := fun u v w h h' => C_impl_AddL r c xs r c us u v t1 w h h' h1
  have CB := fun u v w h h' => C_impl_AddL r' c' ys rc' cc' vs u v t2 w h h' h2
  unfold MakesMx at CA CB
  unfold MakesSMx
  have HU := Lib.hid hu
  have HV := Lib.hid hv
  have HA := Lib.hid ha
  have HB := Lib.hid hb
  clear hu hv ha hb hx hy h1 h2
  obtain ⟨L, HL, S⟩ := st_start w0; have F : True := trivial
  go_enter Tryz.func120, Tryz.ntmps120
  go_upto_region 1 with (first | (refine qbd 2 HL S ?_; clear F S HL; intro gx w L HL S F) | (refine qbd 3 HL S ?_; clear F S HL; intro gy w L HL S F) | (refine qal HL S zSMx ?_; clear F S HL; intro g4 w L HL S F))
  go_upto_region 3 with (first | refine qLb6 S ?_ | refine qLb3 S ?_ | (go_at_call 72; refine qGr S (C_impl_SharedMatrixValid _ _ _ _ _ _ _ _ _ _ (by first | exact HU.out.at_ S | exact HA.out.at_ S) (by first | exact HV.out.at_ S | exact HB.out.at_ S) (by first | exact H1.out | exact H2.out)) ?_; clear S; intro w S) | (go_at_call 116; refine qGr S (C_sameSides _ _ _ _ _ _ true _ (by simp)) ?_; clear S; intro w S))
  have HL0 := HL; have F0 := F; refine wp_region_tree (S := fun w' => St w0 w' L) (qcs 0 4 (qcs 5 4 (.act 4 (.act 9 (.calm 10 (.act 11 .fin .stop)) .stop) .stop))) (by kernel_rfl) (by kernel_rfl) (by kernel_rfl) (by intro c a d v w h; cases d <;> exact h) ?_; dsimp only [qcs, Nat.reduceAdd]; replace S := S.drew
  repeat (first | refine qTb3 ?_ | refine qCa ?_ | refine qAn ?_ | refine qSk ?_ | (refine tree_act rfl rfl ?_ tree_stop; intro K hK; (refine qsw HL S 2 ?_; clear F S HL; intro w L HL S F); (refine qKo hK ?_; clear hK K)) | (refine tree_act rfl rfl ?_ tree_stop; intro K hK; go_wp2_with (first | (go_at_call 68; refine (CA _ _ _ (HU.out.at_ S) (HA.out.at_ S)).mono ?_; rintro e w ⟨u, rfl, T0⟩; have hX := qcl HL S T0; clear F S HL T0; obtain ⟨L, HL, S, F⟩ := hX; obtain ⟨A', cap', rfl, hcap', hmax'⟩ := qSl HL S 0) | (go_at_call 68; refine (CB _ _ _ (HV.out.at_ S) (HB.out.at_ S)).mono ?_; rintro e w ⟨u, rfl, T0⟩; have hX := qcl HL S T0; clear F S HL T0; obtain ⟨L, HL, S, F⟩ := hX; obtain ⟨A', cap', rfl, hcap', hmax'⟩ := qSl HL S 0)); (refine qKo hK ?_; clear hK K)))
  refine tree_fin ?_
  go_wp2
  ((try simp only [Exit.inBlock, Exit.then]); refine ret1 rfl (resCell S HL 2 rfl rfl (by kernel_rfl)) rfl ?_)
  exact ⟨_, _, rfl, (by rw [HL.out] at S; exact S.sub (by repeat (first | exact .refl _ | exact List.nil_sublist _ | apply List.Sublist.cons_cons | apply List.Sublist.cons)))⟩
theorem C_impl_SDense (w b x : SMx) (s : Int) (z : Scd) (u1 u2 u3 u4 u5 u6 : Value) (w0 : World) (h1 : Ints w0 u1 w.a.xs) (h2 : Ints w0 u2 w.b.xs) (h3 : Ints w0 u3 b.a.xs) (h4 : Ints w0 u4 b.b.xs) (h5 : Ints w0 u5 x.a.xs) (h6 : Ints w0 u6 x.b.xs)
    (hw : w.ok = true) (hb : b.ok = true) (hx : x.ok = true) (hs : seedOk s = true) (e1 : w.a.c = x.a.r) (e2 : b.a.c = 1) (e3 : b.a.r = w.a.r) (hz : denseS w b x s = z) :
    Calls Tryz.prog 76 #[.agg #[.int .i64 (w).a.r, .int .i64 (w).a.c, u1, .int .i64 (w).b.r, .int .i64 (w).b.c, u2], .agg #[.int .i64 (b).a.r, .int .i64 (b).a.c, u3, .int .i64 (b).b.r, .int .i64 (b).b.c, u4], .agg #[.int .i64 (x).a.r, .int .i64 (x).a.c, u5, .int .i64 (x).b.r, .int .i64 (x).b.c, u6], .int .i64 s] w0 (MakesScl w0 z) := by
  subst hz
  unfold MakesScl
  have gc := cut_good hw hx e1 hs
  have zr0 : (cutS w x s).m.a.r = w.a.r := by rw [gc.sides.1]; exact (join_smx hw).2.1
  have zc0 : (cutS w x s).m.a.c = x.a.c := by rw [gc.sides.2]; exact (join_smx hx).2.2.1
  obtain ⟨R, K, N, wa, wb, rfl, r1, r2, k1, k2, hRK, hN, hN', hN2, a1, a2⟩ := smx_nat hw
  obtain ⟨R', B1, M, ba, bb, rfl, p1, p2, q1, q2, hM0, hM, hM', hM2, a3, a4⟩ := smx_nat hb
  obtain ⟨K', D, P, xa, xb, rfl, s1, s2, d1, d2, hP0, hP, hP', hP2, a5, a6⟩ := smx_nat hx
  dsimp only at e1 e2 e3 zr0 zc0 h1 h2 h3 h4 h5 h6
  obtain rfl : K' = K := by omega
  obtain rfl : R' = R := by omega
  obtain rfl : B1 = 1 := by omega
  rw [Nat.mul_one] at hM0
  subst hM0
  unfold denseS
  obtain ⟨zq, hzq⟩ : ∃ z, cutS ⟨⟨R', K', wa⟩, ⟨R', K', wb⟩⟩ ⟨⟨K', D, xa⟩, ⟨K', D, xb⟩⟩ s = z := ⟨_, rfl⟩
  rw [hzq] at gc zr0 zc0 ⊢
  dsimp only
  rw [show spreadMx ⟨(R' : Int), ((1 : Nat) : Int), ba⟩ (D : Int).toNat = ⟨R', D, tab (R' * D) (spreadV ba D)⟩ from rfl, show spreadMx ⟨(R' : Int), ((1 : Nat) : Int), bb⟩ (D : Int).toNat = ⟨R', D, tab (R' * D) (spreadV bb D)⟩ from rfl]
  have C1 := fun L p q gs o w S hp hq hpq u v a' b' hu hv ha hb => C_cutO L p q gs s o [] zq.os ⟨⟨R', K', wa⟩, ⟨R', K', wb⟩⟩ ⟨⟨K', D, xa⟩, ⟨K', D, xb⟩⟩ u v a' b' zq w0 w S hp hq hpq (by simp) hu hv ha hb hzq (List.nil_append _)
  have C2 := fun gx u v w h h' hg hc => C_each_Spread R' D ba bb u v gx w h h' hM hM' r1 r2 d1 d2 hg hc
  have sall : ∀ l : List Int, l.all rv = true → (tab (R' * D) (spreadV l D)).all rv = true := fun l hl => tab_all fun q _ => getD_rv hl _
  have hsok : SMx.ok ⟨⟨R', D, tab (R' * D) (spreadV ba D)⟩, ⟨R', D, tab (R' * D) (spreadV bb D)⟩⟩ = true := like_of r1 r2 d1 d2 (tab_length _ _) (tab_length _ _) (sall ba a3) (sall bb a4)
  have C3 := fun u v a b w h1 h2 h3 h4 => C_impl_AddS zq.m ⟨⟨R', D, tab (R' * D) (spreadV ba D)⟩, ⟨R', D, tab (R' * D) (spreadV bb D)⟩⟩ u v a b w h1 h2 h3 h4 gc.ok hsok zr0 zc0
  have HF : Hid (denseFit ⟨R', K', wa⟩ ⟨R', 1, ba⟩ = true) := Lib.hid (by
    simp only [denseFit, Bool.and_eq_true, decide_eq_true_eq]
    exact ⟨⟨⟨Mx.ok_of r1 r2 k1 k2 (by rw [hN, hRK]) a1, Mx.ok_of (C := 1) r1 r2 (by omega) (by omega) (by rw [hM, Nat.mul_one]) a3⟩, trivial⟩, trivial⟩)
  unfold StepsO at C1
  unfold MakesSMx at C2 C3
  dsimp only at C1 C3
  generalize tab (R' * D) (spreadV ba D) = sa at *
  generalize tab (R' * D) (spreadV bb D) = sb at *
  obtain ⟨t1, ht1⟩ : ∃ t, sumMx zq.m.a ⟨R', D, sa⟩ = t := ⟨_, rfl⟩
  obtain ⟨t2, ht2⟩ : ∃ t, sumMx zq.m.b ⟨R', D, sb⟩ = t := ⟨_, rfl⟩
  rw [ht1, ht2] at C3 ⊢
  have CV := fun w => C_seedValid s w
  rw [hs] at CV
  have H1 := Lib.hid hw
  have H2 := Lib.hid hb
  have H3 := Lib.hid hx
  have HXU := Lib.hid h1
  have HXV := Lib.hid h2
  have HAU := Lib.hid h3
  have HAV := Lib.hid h4
  have HBU := Lib.hid h5
  have HBV := Lib.hid h6
  clear h1 h2 h3 h4 h5 h6 hw hb hx hs e1 e2 e3 gc zr0 zc0 r1 r2 k1 k2 hRK hN hN' hN2 a1 a2 p1 p2 q1 q2 hM hM' hM2 a3 a4 s1 s2 d1 d2 hP0 hP hP' hP2 a5 a6 hzq sall hsok ht1 ht2
  obtain ⟨L, HL, S⟩ := st_start w0; have F : True := trivial
  go_enter Tryz.func76, Tryz.ntmps76
  go_upto_region 1 with (first | (refine qbd 4 HL S ?_; clear F S HL; intro gw w L HL S F) | (refine qbd 5 HL S ?_; clear F S HL; intro gb w L HL S F) | (refine qbd 6 HL S ?_; clear F S HL; intro gx w L HL S F) | (refine qal HL S zSMx ?_; clear F S HL; intro g8 w L HL S F))
  go_upto_region 3 with (first | refine qLb6 S ?_ | refine qLb3 S ?_ | (go_at_call 52; refine qPu (CV _) ?_) | (go_at_call 72; refine qGr S (C_impl_SharedMatrixValid _ _ _ _ _ _ _ _ _ _ (by first | exact HXU.out.at_ S | exact HAU.out.at_ S | exact HBU.out.at_ S) (by first | exact HXV.out.at_ S | exact HAV.out.at_ S | exact HBV.out.at_ S) (by first | exact H1.out | exact H2.out | exact H3.out)) ?_; clear S; intro w S) | (go_at_call 110; refine qGr S (C_denseFits _ _ _ _ _ _ _ _ true _ (by exact HXU.out.at_ S) (by exact HAU.out.at_ S) (by exact HF.out)) ?_; clear S; intro w S))
  clear CV
  go_upto_region 4 with (first | (refine qal HL S zStp ?_; clear F S HL; intro gs w L HL S F) | (refine qst HL S 0 ?_; clear F S HL; intro w L HL S F))
  rw [HL.out] at S
  replace S := (S.nilRow 3 1).sel (M := [.box gs _ _, _, _, _, _, _]) (Sel.cons 1 rfl (Sel.tail (.refl _)))
  clear HL F
  obtain ⟨L, hM, T⟩ := st_name S; clear S; have S := T; clear T; have HL := Lib.hid hM; clear hM; have F := qFc HL S
  go_upto_region 5 with (first | refine qLb6 S ?_ | (go_at_call 53; refine (C1 L _ _ _ _ _ S qAt qAt (by decide) _ _ _ _ (by first | exact .inl HXU.out | exact .inl HXV.out | exact .inl HAU.out | exact .inl HAV.out | exact .inl HBU.out | exact .inl HBV.out | exact .inr qIn) (by first | exact .inl HXU.out | exact .inl HXV.out | exact .inl HAU.out | exact .inl HAV.out | exact .inl HBU.out | exact .inl HBV.out | exact .inr qIn) (by first | exact .inl HXU.out | exact .inl HXV.out | exact .inl HAU.out | exact .inl HAV.out | exact .inl HBU.out | exact .inl HBV.out | exact .inr qIn) (by first | exact .inl HXU.out | exact .inl HXV.out | exact .inl HAU.out | exact .inl HAV.out | exact .inl HBU.out | exact .inl HBV.out | exact .inr qIn)).mono ?_; rintro e w ⟨o2, Au, At', cu, ct, rfl, T0⟩; obtain ⟨L, hM, T⟩ := st_name T0; clear T0; clear F S; replace HL := qNm HL hM; clear hM; have S := T; clear T; have F := qFc HL S) | (refine qal HL S zSMx ?_; clear F S HL; intro g12 w L HL S F) | (refine qst HL S 0 ?_; clear F S HL; intro w L HL S F))
  clear C1
  go_upto_region 6 with (first | refine qLb6 S ?_ | (go_at_call 56; refine (C2 gx _ _ _ (HAU.out.at_ S) (HAV.out.at_ S) (by exact (S.lt (At.mem (e := .box gx _ _) qAt) rfl).2) (by exact S.cell (g := gx) qAt 1)).mono ?_; rintro e w ⟨u, v, rfl, T0⟩; have hX := qcl HL S T0; clear F S HL T0; obtain ⟨L, HL, S, F⟩ := hX; obtain ⟨A', cap', rfl, hcap', hmax'⟩ := qSl HL S 0; obtain ⟨A', cap', rfl, hcap', hmax'⟩ := qSl HL S 1) | (refine qal HL S zSMx ?_; clear F S HL; intro g13 w L HL S F) | (refine qst HL S 0 ?_; clear F S HL; intro w L HL S F))
  clear C2
  rw [HL.out] at S
  have T := S.sel (M := .box g8 _ _ :: _) (Sel.cons 8 rfl (Sel.tail (.refl _)))
  clear S HL F
  have S := T
  clear T
  simp only [List.eraseIdx_cons_succ, List.eraseIdx_cons_zero] at S
  obtain ⟨L, hM, T⟩ := st_name S; clear S; have S := T; clear T; have HL := Lib.hid hM; clear hM; have F := qFc HL S
  have hT := congrArg (List.drop 1) HL.out; simp only [List.drop_succ_cons, List.drop_zero] at hT; obtain ⟨L1, hL1⟩ : ∃ M, M = L.drop 1 := ⟨_, rfl⟩; rw [← hL1] at hT; have HL0 := Lib.hid hT; have S1 := S.sub (List.drop_sublist 1 L); rw [← hL1] at S1; have F0 := qFc HL0 S1; clear S1 hL1 hT; refine wp_region_tree (S := fun w' => St w0 w' L1) (.calm 0 (.calm 1 (qcs 3 4 (.act 2 (.act 7 (.calm 8 (.calm 9 .fin)) .stop) .stop)))) (by kernel_rfl) (by kernel_rfl) (by kernel_rfl) (by intro c a d v w h; cases d <;> exact h) ?_; dsimp only [qcs, Nat.reduceAdd]; replace S := S.drew
  repeat (first | refine qTb6 ?_ | refine qCa ?_ | refine qAn ?_ | refine qSk ?_ | (refine tree_act rfl rfl ?_ tree_stop; intro K hK; (refine qsw HL S 2 ?_; clear F S HL; intro w L HL S F); (refine qKo hK ?_; clear hK K)) | (refine tree_act rfl rfl ?_ tree_stop; intro K hK; go_wp2_with (first | (go_at_call 120; refine (C3 _ _ _ _ _ (Sees.row S qAt) (Sees.row S qAt) (Sees.row S qAt) (Sees.row S qAt)).mono ?_; rintro e w ⟨u, v, rfl, T0⟩; have hX := qcl HL S T0; clear F S HL T0; obtain ⟨L, HL, S, F⟩ := hX; obtain ⟨A', cap', rfl, hcap', hmax'⟩ := qSl HL S 0; obtain ⟨A', cap', rfl, hcap', hmax'⟩ := qSl HL S 1)); (refine qKo hK ?_; clear hK K)))
  refine tree_fin ?_
  go_wp2
  refine ret3 rfl (resCell S HL 2 rfl rfl (by kernel_rfl)) (show _ = _ from rfl) (show _ = _ from rfl) rfl ?_
  exact ⟨_, _, _, rfl, (by rw [HL.out] at S; exact S.sel (by exact qSel))⟩
end
section
theorem step_cases {l : SLy} {x : SMx} {s : Int} {p : Int × Int} (hl : (joinLy l).ok = true) (hx : x.ok = true) (hs : seedOk s = true) (hd : (joinLy l).sides x.a.r x.a.c = some p) :
    l = ⟨2, []⟩ ∨ (∃ w b, l = ⟨1, [w, b]⟩ ∧ w.ok = true ∧ b.ok = true ∧ w.a.c = x.a.r ∧ b.a.c = 1 ∧ b.a.r = w.a.r) ∨ ∃ a b c, l = ⟨3, [a, b, c]⟩ ∧ mixOk [a, b, c] x s = true := by
  obtain ⟨kind, ws⟩ := l
  match ws with
  | [] =>
    have : (decide (kind = 2)) = true := hl
    obtain rfl := of_decide_eq_true this
    exact .inl rfl
  | [w, b] =>
    have hl' : (decide (kind = 1) && denseFit (joinMx w) (joinMx b)) = true := hl
    simp only [denseFit, Bool.and_eq_true, decide_eq_true_eq] at hl'
    obtain ⟨rfl, ⟨⟨h1, h2⟩, h3⟩, h4⟩ := hl'
    have hw := join_inv h1
    have hb := join_inv h2
    have hwc : (joinMx w).c = x.a.r := by
      have hd' : (if (joinMx w).c = x.a.r then some ((joinMx w).r, x.a.c) else none) = some p := hd
      split at hd'
      · assumption
      · cases hd'
    obtain ⟨_, jw1, jw2, _⟩ := join_smx hw
    obtain ⟨_, jb1, jb2, _⟩ := join_smx hb
    exact .inr (.inl ⟨w, b, rfl, hw, hb, by rw [← jw2]; exact hwc, by rw [← jb2]; exact h3, by rw [← jb1, ← jw1]; exact h4⟩)
  | [a, b, c] =>
    have hl' : (decide (kind = 3) && mixFit (joinMx a) (joinMx b) (joinMx c)) = true := hl
    simp only [mixFit, Bool.and_eq_true, decide_eq_true_eq] at hl'
    obtain ⟨rfl, ⟨⟨⟨⟨h1, h2⟩, h3⟩, h4⟩, h5, h6⟩, h7, h8⟩ := hl'
    have ha := join_inv h1
    have hb := join_inv h2
    have hc := join_inv h3
    have hac : (joinMx a).r = x.a.c := by
      have hd' : (if (joinMx a).r = x.a.c then some (x.a.r, x.a.c) else none) = some p := hd
      split at hd'
      · assumption
      · cases hd'
    obtain ⟨_, ja1, ja2, _⟩ := join_smx ha
    obtain ⟨_, jb1, jb2, _⟩ := join_smx hb
    obtain ⟨_, jc1, jc2, _⟩ := join_smx hc
    refine .inr (.inr ⟨a, b, c, rfl, ?_⟩)
    simp only [mixOk, mixFitS, List.all_cons, List.all_nil, Bool.and_eq_true, Bool.and_true, decide_eq_true_eq, List.length_cons, List.length_nil]
    exact ⟨⟨⟨trivial, hx⟩, ⟨⟨ha, by omega⟩, by omega⟩, ⟨⟨hb, by omega⟩, by omega⟩, ⟨hc, by omega⟩, by omega⟩, hs⟩
  | _ :: _ :: _ :: _ :: _ =>
    have : (false : Bool) = true := hl
    cases this
  | [_] =>
    have : (false : Bool) = true := hl
    cases this
end
end Go.Proofs.YtjgfjfjboimgdaaGreat
