/- SdS LaS -/
import Derived.Test.YtjgfjfjboimgdaaGreatY28
import Derived.Test.YtjgfjfjboimgdaaGreatY42
namespace Go.Proofs.YtjgfjfjboimgdaaGreat
set_option linter.unusedSimpArgs false
set_option linter.unusedVariables false
set_option linter.unusedSectionVars false
open Go Go.RowKit
set_option maxHeartbeats 8000000
set_option maxRecDepth 20000
section
attribute [local irreducible] wpList Oper.wp Calls
theorem C_spec_AddS (x y : SMx) (u v a b : Value) (w0 : World) (hu : Ints w0 u x.a.xs) (hv : Ints w0 v x.b.xs) (ha : Ints w0 a y.a.xs) (hb : Ints w0 b y.b.xs) (hx : x.ok = true) (hy : y.ok = true) (hr : x.a.r = y.a.r) (hc : x.a.c = y.a.c) :
    Calls Tryz.prog 160 #[.agg #[.int .i64 (x).a.r, .int .i64 (x).a.c, u, .int .i64 (x).b.r, .int .i64 (x).b.c, v], .agg #[.int .i64 (y).a.r, .int .i64 (y).a.c, a, .int .i64 (y).b.r, .int .i64 (y).b.c, b]] w0 (MakesSMx w0 (sumMx x.a y.a).r (sumMx x.a y.a).c (sumMx x.a y.a).xs (sumMx x.b y.b).r (sumMx x.b y.b).c (sumMx x.b y.b).xs) := by
  have fx := ok_few hx
  have fy := ok_few hy
  have hl : likeMx x.a y.a = true := by
    have k1 : x.a.ok = true := by
      have := hx
      simp only [SMx.ok, likeMx, Bool.and_eq_true] at this
      exact this.1.1.1
    have k2 : y.a.ok = true := by
      have := hy
      simp only [SMx.ok, likeMx, Bool.and_eq_true] at this
      exact this.1.1.1
    simp only [likeMx, Bool.and_eq_true, decide_eq_true_eq]
    exact ⟨⟨⟨k1, k2⟩, hr⟩, hc⟩
  obtain ⟨⟨r, c, xs⟩, ⟨r', c', ys⟩⟩ := x
  obtain ⟨⟨rc, cc, us⟩, ⟨rc', cc', vs⟩⟩ := y
  dsimp only at hr hc hu hv ha hb hl fx fy ⊢
  subst hr hc
  have H1 : Hid (likeMx ⟨r, c, xs⟩ ⟨r', c', ys⟩ = true) := Lib.hid hx
  have H2 : Hid (likeMx ⟨r, c, us⟩ ⟨rc', cc', vs⟩ = true) := Lib.hid hy
  have H3 := Lib.hid hl
  obtain ⟨t1, h1⟩ : ∃ t, sumMx ⟨r, c, xs⟩ ⟨r, c, us⟩ = t := ⟨_, rfl⟩
  obtain ⟨t2, h2⟩ : ∃ t, sumMx ⟨r', c', ys⟩ ⟨rc', cc', vs⟩ = t := ⟨_, rfl⟩
  rw [h1, h2]
  have CA := fun u v w h h' => C_spec_AddG r c xs r c us u v t1 w h h' (by omega) (by omega) h1
  have CB := fun u v w h h' => C_spec_AddG r' c' ys rc' cc' vs u v t2 w h h' (by omega) (by omega) h2
  have CX := fun w h h' => C_l1OwnSharedMatrix r c xs r' c' ys u v w h h' (by omega) (by omega)
  have CY := fun w h h' => C_l1OwnSharedMatrix r c us rc' cc' vs a b w h h' (by omega) (by omega)
  unfold MakesMx at CA CB
  unfold MakesSMx at CX CY ⊢
  have HU := Lib.hid hu
  have HV := Lib.hid hv
  have HA := Lib.hid ha
  have HB := Lib.hid hb
  clear hu hv ha hb hx hy hl h1 h2 fx fy
  obtain ⟨L, HL, S⟩ := st_start w0; have F : True := trivial
  go_enter Tryz.func160, Tryz.ntmps160
  go_upto_region 1 with (first | (refine qbd 2 HL S ?_; clear F S HL; intro gx w L HL S F) | (refine qbd 3 HL S ?_; clear F S HL; intro gy w L HL S F) | (refine qal HL S zSMx ?_; clear F S HL; intro g4 w L HL S F))
  go_upto_region 2 with (first | refine qLb6 S ?_ | (go_at_call 42; refine (CX _ (HU.out.at_ S) (HV.out.at_ S)).mono ?_; rintro e w ⟨u, v, rfl, T0⟩; have hX := qcl HL S T0; clear F S HL T0; obtain ⟨L, HL, S, F⟩ := hX; obtain ⟨A', cap', rfl, hcap', hmax'⟩ := qSl HL S 0; obtain ⟨A', cap', rfl, hcap', hmax'⟩ := qSl HL S 1) | (refine qst HL S 4 ?_; clear F S HL; intro w L HL S F))
  go_upto_region 3 with (first | refine qLb6 S ?_ | (go_at_call 42; refine (CY _ (HA.out.at_ S) (HB.out.at_ S)).mono ?_; rintro e w ⟨u, v, rfl, T0⟩; have hX := qcl HL S T0; clear F S HL T0; obtain ⟨L, HL, S, F⟩ := hX; obtain ⟨A', cap', rfl, hcap', hmax'⟩ := qSl HL S 0; obtain ⟨A', cap', rfl, hcap', hmax'⟩ := qSl HL S 1) | (refine qst HL S 5 ?_; clear F S HL; intro w L HL S F))
  clear CX CY
  go_upto_region 5 with (first | refine qLb6 S ?_ | refine qLb3 S ?_ | (go_at_call 43; refine qGr S (C_spec_SharedMatrixValid _ _ _ _ _ _ _ _ _ _ (by exact (Sees.row S qAt)) (by exact (Sees.row S qAt)) (by first | exact H1.out | exact H2.out)) ?_; clear S; intro w S) | (go_at_call 89; refine qGr S (C_spec_l3Like _ _ _ _ _ _ _ _ _ _ (by exact (Sees.row S qAt)) (by exact (Sees.row S qAt)) H3.out) ?_; clear S; intro w S))
  have HL0 := HL; have F0 := F; refine wp_region_tree (S := fun w' => St w0 w' L) (qcs 0 4 (qcs 5 4 (.act 4 (.act 9 (.calm 10 (.act 11 .fin .stop)) .stop) .stop))) (by kernel_rfl) (by kernel_rfl) (by kernel_rfl) (by intro c a d v w h; cases d <;> exact h) ?_; dsimp only [qcs, Nat.reduceAdd]; replace S := S.drew
  repeat (first | refine qTb3 ?_ | refine qCa ?_ | refine qAn ?_ | refine qSk ?_ | (refine tree_act rfl rfl ?_ tree_stop; intro K hK; (refine qsw HL S 6 ?_; clear F S HL; intro w L HL S F); (refine qKo hK ?_; clear hK K)) | (refine tree_act rfl rfl ?_ tree_stop; intro K hK; go_wp2_with (first | (go_at_call 159; refine (CA _ _ _ (Sees.row S qAt) (Sees.row S qAt)).mono ?_; rintro e w ⟨u, rfl, T0⟩; have hX := qcl HL S T0; clear F S HL T0; obtain ⟨L, HL, S, F⟩ := hX; obtain ⟨A', cap', rfl, hcap', hmax'⟩ := qSl HL S 0) | (go_at_call 159; refine (CB _ _ _ (Sees.row S qAt) (Sees.row S qAt)).mono ?_; rintro e w ⟨u, rfl, T0⟩; have hX := qcl HL S T0; clear F S HL T0; obtain ⟨L, HL, S, F⟩ := hX; obtain ⟨A', cap', rfl, hcap', hmax'⟩ := qSl HL S 0)); (refine qKo hK ?_; clear hK K)))
  refine tree_fin ?_
  go_wp2
  ((try simp only [Exit.inBlock, Exit.then]); refine ret1 rfl (resCell S HL 6 rfl rfl (by kernel_rfl)) rfl ?_)
  exact ⟨_, _, rfl, (by rw [HL.out] at S; exact S.sel (by exact qSel))⟩
theorem C_l13Wide (R D : Nat) (ys zs : List Int) (u v : Value) (w0 : World) (h : Ints w0 u ys) (h' : Ints w0 v zs) (ly : ys.length = R) (lz : zs.length = R) (r1 : 1 ≤ R) (r2 : R ≤ 5) (d1 : 1 ≤ D) (d2 : D ≤ 5) :
    Calls Tryz.prog 161 #[.agg #[.int .i64 R, .int .i64 1, u, .int .i64 R, .int .i64 1, v], .int .i64 D] w0 (MakesSMx w0 R D (tab (R * D) (spreadV ys D)) R D (tab (R * D) (spreadV zs D))) := by
  have CW := fun u n w h hn => C_l12Wide R D ys u n w h hn r1 r2 d1 d2
  have CZ := fun u n w h hn => C_l12Wide R D zs u n w h hn r1 r2 d1 d2
  have HU := Lib.hid h
  have HV := Lib.hid h'
  have HY := Lib.hid ly
  have HZ := Lib.hid lz
  unfold MakesSMx
  rw [tab_length, tab_length]
  generalize tab (R * D) (spreadV ys D) = sa at *
  generalize tab (R * D) (spreadV zs D) = sb at *
  obtain ⟨N, hN⟩ : ∃ N, R * D = N := ⟨_, rfl⟩
  rw [hN] at CW CZ ⊢
  clear h h' hN ly lz
  obtain ⟨L, HL, S⟩ := st_start w0; have F : True := trivial
  go_enter Tryz.func161, Tryz.ntmps161
  go_upto_region 1 with (first | (refine qbd 2 HL S ?_; clear F S HL; intro gx w L HL S F) | (refine qal HL S zSMx ?_; clear F S HL; intro g4 w L HL S F))
  have HL0 := HL; have F0 := F; refine wp_region_tree (S := fun w' => St w0 w' L) (qcs 0 3 (qcs 4 3 (.act 3 (.act 7 (.calm 8 (.act 9 .fin .stop)) .stop) .stop))) (by kernel_rfl) (by kernel_rfl) (by kernel_rfl) (by intro c a d v w h; cases d <;> exact h) ?_; dsimp only [qcs, Nat.reduceAdd]; replace S := S.drew
  repeat (first | refine qTb3 ?_ | refine qCa ?_ | refine qAn ?_ | refine qSk ?_ | (refine tree_act rfl rfl ?_ tree_stop; intro K hK; (refine qsw HL S 2 ?_; clear F S HL; intro w L HL S F); (refine qKo hK ?_; clear hK K)) | (refine tree_act rfl rfl ?_ tree_stop; intro K hK; go_wp2_with (first | (go_at_call 188; refine (CW _ _ _ (HU.out.at_ S) HY.out).mono ?_; rintro e w ⟨u, rfl, T0⟩; have hX := qcl HL S T0; clear F S HL T0; obtain ⟨L, HL, S, F⟩ := hX; obtain ⟨A', cap', rfl, hcap', hmax'⟩ := qSl HL S 0) | (go_at_call 188; refine (CZ _ _ _ (HV.out.at_ S) HZ.out).mono ?_; rintro e w ⟨u, rfl, T0⟩; have hX := qcl HL S T0; clear F S HL T0; obtain ⟨L, HL, S, F⟩ := hX; obtain ⟨A', cap', rfl, hcap', hmax'⟩ := qSl HL S 0)); (refine qKo hK ?_; clear hK K)))
  refine tree_fin ?_
  go_wp2
  ((try simp only [Exit.inBlock, Exit.then]); refine ret1 rfl (resCell S HL 2 rfl rfl (by kernel_rfl)) rfl ?_)
  exact ⟨_, _, rfl, (by rw [HL.out] at S; exact S.sel (by exact qSel))⟩
theorem C_spec_SDense (w b x : SMx) (s : Int) (z : Scd) (u1 u2 u3 u4 u5 u6 : Value) (w0 : World) (h1 : Ints w0 u1 w.a.xs) (h2 : Ints w0 u2 w.b.xs) (h3 : Ints w0 u3 b.a.xs) (h4 : Ints w0 u4 b.b.xs) (h5 : Ints w0 u5 x.a.xs) (h6 : Ints w0 u6 x.b.xs)
    (hw : w.ok = true) (hb : b.ok = true) (hx : x.ok = true) (hs : seedOk s = true) (e1 : w.a.c = x.a.r) (e2 : b.a.c = 1) (e3 : b.a.r = w.a.r) (hz : denseS w b x s = z) :
    Calls Tryz.prog 125 #[.agg #[.int .i64 (w).a.r, .int .i64 (w).a.c, u1, .int .i64 (w).b.r, .int .i64 (w).b.c, u2], .agg #[.int .i64 (b).a.r, .int .i64 (b).a.c, u3, .int .i64 (b).b.r, .int .i64 (b).b.c, u4], .agg #[.int .i64 (x).a.r, .int .i64 (x).a.c, u5, .int .i64 (x).b.r, .int .i64 (x).b.c, u6], .int .i64 s] w0 (MakesScl w0 z) := by
  subst hz
  unfold MakesScl
  have gc := cut_good hw hx e1 hs
  have hlast := seedOk_bd (prod_good hw hx e1 hs).seed
  have zr0 : (cutS w x s).m.a.r = w.a.r := by rw [gc.sides.1]; exact (join_smx hw).2.1
  have zc0 : (cutS w x s).m.a.c = x.a.c := by rw [gc.sides.2]; exact (join_smx hx).2.2.1
  have zok : (cutS w x s).m.ok = true := gc.ok
  obtain ⟨R, K, N, wa, wb, rfl, r1, r2, k1, k2, hRK, hN, hN', hN2, a1, a2⟩ := smx_nat hw
  obtain ⟨R', B1, M, ba, bb, rfl, p1, p2, q1, q2, hM0, hM, hM', hM2, a3, a4⟩ := smx_nat hb
  obtain ⟨K', D, P, xa, xb, rfl, s1, s2, d1, d2, hP0, hP, hP', hP2, a5, a6⟩ := smx_nat hx
  dsimp only at e1 e2 e3 zr0 zc0 h1 h2 h3 h4 h5 h6
  obtain rfl : K' = K := by omega
  obtain rfl : R' = R := by omega
  obtain rfl : B1 = 1 := by omega
  rw [Nat.mul_one] at hM0
  subst hM0
  unfold denseS
  unfold cutS at zr0 zc0 zok ⊢
  have fp := prodS_few ⟨⟨R', K', wa⟩, ⟨R', K', wb⟩⟩ ⟨⟨K', D, xa⟩, ⟨K', D, xb⟩⟩ s
  have kp := scd_few (prodS_kind ⟨⟨R', K', wa⟩, ⟨R', K', wb⟩⟩ ⟨⟨K', D, xa⟩, ⟨K', D, xb⟩⟩ s)
  have CP := fun u v p q w h1 h2 h3 h4 => C_spec_ProductShared ⟨⟨R', K', wa⟩, ⟨R', K', wb⟩⟩ ⟨⟨K', D, xa⟩, ⟨K', D, xb⟩⟩ u v p q s _ w h1 h2 h3 h4 (by dsimp only; omega) (by dsimp only; omega) (by dsimp only; omega) (by dsimp only; omega) rfl
  generalize prodS ⟨⟨R', K', wa⟩, ⟨R', K', wb⟩⟩ ⟨⟨K', D, xa⟩, ⟨K', D, xb⟩⟩ s = zp at *
  have fm := mapS_few 1 zp.m zp.last
  have CM := fun u v w h h' => C_spec_MapShared 1 zp.m u v zp.last _ w h h' (by omega) (by omega) rfl
  generalize mapS 1 zp.m zp.last = zm at *
  dsimp only at zr0 zc0 zok ⊢
  rw [show spreadMx ⟨(R' : Int), ((1 : Nat) : Int), ba⟩ (D : Int).toNat = ⟨R', D, tab (R' * D) (spreadV ba D)⟩ from rfl, show spreadMx ⟨(R' : Int), ((1 : Nat) : Int), bb⟩ (D : Int).toNat = ⟨R', D, tab (R' * D) (spreadV bb D)⟩ from rfl]
  have C2 := fun u v w h h' => C_l13Wide R' D ba bb u v w h h' hM hM' r1 r2 d1 d2
  have sall : ∀ l : List Int, l.all rv = true → (tab (R' * D) (spreadV l D)).all rv = true := fun l hl => tab_all fun q _ => getD_rv hl _
  have hsok : SMx.ok ⟨⟨R', D, tab (R' * D) (spreadV ba D)⟩, ⟨R', D, tab (R' * D) (spreadV bb D)⟩⟩ = true := like_of r1 r2 d1 d2 (tab_length _ _) (tab_length _ _) (sall ba a3) (sall bb a4)
  have C3 := fun u v a b w h1 h2 h3 h4 => C_spec_AddS zm.m ⟨⟨R', D, tab (R' * D) (spreadV ba D)⟩, ⟨R', D, tab (R' * D) (spreadV bb D)⟩⟩ u v a b w h1 h2 h3 h4 zok hsok zr0 zc0
  have CX := fun w h h' => C_l1OwnSharedMatrix R' K' wa R' K' wb u1 u2 w h h' (by omega) (by omega)
  have CY := fun w h h' => C_l1OwnSharedMatrix R' ((1 : Nat) : Int) ba R' ((1 : Nat) : Int) bb u3 u4 w h h' (by omega) (by omega)
  have CZ := fun w h h' => C_l1OwnSharedMatrix K' D xa K' D xb u5 u6 w h h' (by omega) (by omega)
  unfold MakesScl at CP CM
  unfold MakesSMx at C2 C3 CX CY CZ
  dsimp only at CP C3
  generalize tab (R' * D) (spreadV ba D) = sa at *
  generalize tab (R' * D) (spreadV bb D) = sb at *
  obtain ⟨t1, ht1⟩ : ∃ t, sumMx zm.m.a ⟨R', D, sa⟩ = t := ⟨_, rfl⟩
  obtain ⟨t2, ht2⟩ : ∃ t, sumMx zm.m.b ⟨R', D, sb⟩ = t := ⟨_, rfl⟩
  rw [ht1, ht2] at C3 ⊢
  have hne : (zp.last == 0) = false := by rw [beq_eq_false_iff_ne]; omega
  have H1 := Lib.hid hw
  have H2 := Lib.hid hb
  have H3 := Lib.hid hx
  have HXU := Lib.hid h1
  have HXV := Lib.hid h2
  have HAU := Lib.hid h3
  have HAV := Lib.hid h4
  have HBU := Lib.hid h5
  have HBV := Lib.hid h6
  have HFF := Lib.hid (And.intro fp fm)
  clear h1 h2 h3 h4 h5 h6 hw hb hx hs e1 e2 e3 gc zr0 zc0 zok r1 r2 k1 k2 hRK hN hN' hN2 a1 a2 p1 p2 q1 q2 hM hM' hM2 a3 a4 s1 s2 d1 d2 hP0 hP hP' hP2 a5 a6 sall hsok ht1 ht2 fp fm kp hlast
  obtain ⟨L, HL, S⟩ := st_start w0; have F : True := trivial
  go_enter Tryz.func125, Tryz.ntmps125
  go_upto_region 1 with (first | (refine qbd 4 HL S ?_; clear F S HL; intro gw w L HL S F) | (refine qbd 5 HL S ?_; clear F S HL; intro gb w L HL S F) | (refine qbd 6 HL S ?_; clear F S HL; intro gx w L HL S F) | (refine qal HL S zSMx ?_; clear F S HL; intro g8 w L HL S F))
  go_upto_region 2 with (first | refine qLb6 S ?_ | (go_at_call 42; refine (CX _ (HXU.out.at_ S) (HXV.out.at_ S)).mono ?_; rintro e w ⟨u, v, rfl, T0⟩; have hX := qcl HL S T0; clear F S HL T0; obtain ⟨L, HL, S, F⟩ := hX; obtain ⟨A', cap', rfl, hcap', hmax'⟩ := qSl HL S 0; obtain ⟨A', cap', rfl, hcap', hmax'⟩ := qSl HL S 1) | (refine qst HL S 5 ?_; clear F S HL; intro w L HL S F))
  go_upto_region 3 with (first | refine qLb6 S ?_ | (go_at_call 42; refine (CY _ (HAU.out.at_ S) (HAV.out.at_ S)).mono ?_; rintro e w ⟨u, v, rfl, T0⟩; have hX := qcl HL S T0; clear F S HL T0; obtain ⟨L, HL, S, F⟩ := hX; obtain ⟨A', cap', rfl, hcap', hmax'⟩ := qSl HL S 0; obtain ⟨A', cap', rfl, hcap', hmax'⟩ := qSl HL S 1) | (refine qst HL S 6 ?_; clear F S HL; intro w L HL S F))
  go_upto_region 4 with (first | refine qLb6 S ?_ | (go_at_call 42; refine (CZ _ (HBU.out.at_ S) (HBV.out.at_ S)).mono ?_; rintro e w ⟨u, v, rfl, T0⟩; have hX := qcl HL S T0; clear F S HL T0; obtain ⟨L, HL, S, F⟩ := hX; obtain ⟨A', cap', rfl, hcap', hmax'⟩ := qSl HL S 0; obtain ⟨A', cap', rfl, hcap', hmax'⟩ := qSl HL S 1) | (refine qst HL S 7 ?_; clear F S HL; intro w L HL S F))
  clear CX CY CZ
  go_upto_region 6 with (first | refine qLb6 S ?_ | (go_at_call 43; refine qGr S (C_spec_SharedMatrixValid _ _ _ _ _ _ _ _ _ _ (by exact (Sees.row S qAt)) (by exact (Sees.row S qAt)) (by exact H2.out)) ?_; clear S; intro w S))
  go_upto_region 7 with (first | refine qLb6 S ?_ | (go_at_call 90; refine (CP _ _ _ _ _ (Sees.row S qAt) (Sees.row S qAt) (Sees.row S qAt) (Sees.row S qAt)).mono ?_; rintro e w ⟨u1, v1, o1, rfl, T0⟩; have hX := qcl HL S T0; clear F S HL T0; obtain ⟨L, HL, S, F⟩ := hX; obtain ⟨A', cap', rfl, hcap', hmax'⟩ := qSl HL S 1; obtain ⟨A', cap', rfl, hcap', hmax'⟩ := qSl HL S 2) | (refine qal HL S zSMx ?_; clear F S HL; intro gp w L HL S F) | (refine qst HL S 0 ?_; clear F S HL; intro w L HL S F))
  clear CP
  go_upto_region 10 with (first | refine qLb6 S ?_ | (go_at_call 47; refine (CM _ _ _ (Sees.row S qAt) (Sees.row S qAt)).mono ?_; rintro e w ⟨u1, v1, o1, rfl, T0⟩; have hX := qcl HL S T0; clear F S HL T0; obtain ⟨L, HL, S, F⟩ := hX; obtain ⟨A', cap', rfl, hcap', hmax'⟩ := qSl HL S 1; obtain ⟨A', cap', rfl, hcap', hmax'⟩ := qSl HL S 2) | (refine qal HL S zSMx ?_; clear F S HL; intro gm w L HL S F) | (refine qst HL S 0 ?_; clear F S HL; intro w L HL S F))
  clear CM
  (rw [HL.out] at S; have T := ((((S.toObj (p := 0) rfl).toObj (p := 4) rfl).toObj (p := 16) rfl).toObj (p := 17) rfl); clear S HL F; have S := T; clear T; (try simp only [List.set_cons_zero, List.set_cons_succ] at S); obtain ⟨L, hM, T⟩ := st_name S; clear S; have S := T; clear T; have HL := Lib.hid hM; clear hM; have F := qFc HL S)
  rw [HL.out] at S
  have T := S.sel (M := .box g8 _ _ :: .row _ _ _ zp.os.length (ints zp.os) :: _) (Sel.cons 14 rfl (Sel.cons 5 rfl (Sel.tail (.refl _))))
  clear S HL F
  have S := T
  clear T
  simp only [List.eraseIdx_cons_succ, List.eraseIdx_cons_zero] at S
  obtain ⟨L, hM, T⟩ := st_name S; clear S; have S := T; clear T; have HL := Lib.hid hM; clear hM; have F := qFc HL S
  obtain ⟨hf1, hf2⟩ := HFF.out
  have hT := congrArg (List.drop 2) HL.out; simp only [List.drop_succ_cons, List.drop_zero] at hT; obtain ⟨L1, hL1⟩ : ∃ M, M = L.drop 2 := ⟨_, rfl⟩; rw [← hL1] at hT; have HL0 := Lib.hid hT; have S1 := S.sub (List.drop_sublist 2 L); rw [← hL1] at S1; have F0 := qFc HL0 S1; clear S1 hL1 hT; refine wp_region_tree (S := fun w' => St w0 w' L1) (qcs 0 5 (.calm 7 (.calm 8 (.calm 10 (.act 5 (.act 6 (.act 9 (.act 11 (.calm 12 (.calm 13 .fin)) .stop) .stop) .stop) .stop))))) (by kernel_rfl) (by kernel_rfl) (by kernel_rfl) (by intro c a d v w h; cases d <;> exact h) ?_; dsimp only [qcs, Nat.reduceAdd]; replace S := S.drew
  repeat' (first | refine qTo6 ?_ | refine qCa ?_ | refine qAn ?_ | refine qSk ?_ | exact tree_stop | (refine tree_act rfl rfl ?_ ?_) | (intro K hK; (refine qsw HL S 4 ?_; clear F S HL; intro w L HL S F); (refine qKo hK ?_; clear hK K)) | (intro K hK; (refine wp_append_see S _ _ _ rfl 1 3 _ 1 8 Tryz.underlying23 infoInt rfl (by omega) _ _ _ rfl (atOf HL rfl) _ _ _ rfl (by exact (Sees.row S qAt)) (ints_one _) (by simp only [maxLen]; omega) (by omega) ?_; clear F S; intro u' w L hM S; replace HL := qNm HL hM; clear hM; have F := qFc HL S); (refine qKo hK ?_; clear hK K)) | (intro K hK; (refine wp_append_see S _ _ _ rfl 3 3 _ 1 8 Tryz.underlying23 infoInt rfl (by omega) _ _ _ rfl (atOf HL rfl) _ _ _ rfl (by exact (Sees.row S qAt)) (ints_one _) (by simp only [maxLen]; omega) (by omega) ?_; clear F S; intro u' w L hM S; replace HL := qNm HL hM; clear hM; have F := qFc HL S); (refine qKo hK ?_; clear hK K)) | (intro K hK; (refine wp_append_see S _ _ _ rfl 5 3 _ 1 8 Tryz.underlying23 infoInt rfl (by omega) _ _ _ rfl (atOf HL rfl) _ _ _ rfl (by exact (Sees.row S qAt)) (ints_one _) (by simp only [maxLen]; omega) (by omega) ?_; clear F S; intro u' w L hM S; replace HL := qNm HL hM; clear hM; have F := qFc HL S); (refine qKo hK ?_; clear hK K)) | (intro K hK; go_wp2_with (first | (go_at_call 161; refine (C2 _ _ _ (Sees.row S qAt) (Sees.row S qAt)).mono ?_; rintro e w ⟨u, v, rfl, T0⟩; have hX := qcl HL S T0; clear F S HL T0; obtain ⟨L, HL, S, F⟩ := hX; obtain ⟨A', cap', rfl, hcap', hmax'⟩ := qSl HL S 0; obtain ⟨A', cap', rfl, hcap', hmax'⟩ := qSl HL S 1) | (go_at_call 160; refine (C3 _ _ _ _ _ (Sees.row S qAt) (Sees.row S qAt) (Sees.row S qAt) (Sees.row S qAt)).mono ?_; rintro e w ⟨u, v, rfl, T0⟩; have hX := qcl HL S T0; clear F S HL T0; obtain ⟨L, HL, S, F⟩ := hX; obtain ⟨A', cap', rfl, hcap', hmax'⟩ := qSl HL S 0; obtain ⟨A', cap', rfl, hcap', hmax'⟩ := qSl HL S 1)); (refine qKo hK ?_; clear hK K)))
  all_goals
    refine tree_fin ?_
    go_wp2
    refine ret3 rfl (resCell S HL 4 rfl rfl (by kernel_rfl)) (show _ = _ from rfl) (show _ = _ from rfl) rfl ?_
    simp only [List.length_append, ints_append]
    exact ⟨_, _, _, rfl, (by rw [HL.out] at S; exact S.sel (by exact qSel))⟩
end
section
attribute [local irreducible] wpList Oper.wp Calls
theorem C_l17_map (x : SMx) (s : Int) (t u v : Value) (z : Scd) (w0 : World) (hu : Ints w0 u x.a.xs) (hv : Ints w0 v x.b.xs) (hx : x.ok = true) (hz : mapS 2 x s = z) :
    Calls Tryz.prog 80 #[.agg #[.int .i64 2, t], .agg #[.int .i64 (x).a.r, .int .i64 (x).a.c, u, .int .i64 (x).b.r, .int .i64 (x).b.c, v], .int .i64 s] w0 (MakesScl w0 z) := by
  have fx := ok_few hx
  have CM := fun w h h' => C_spec_MapShared 2 x u v s z w h h' (by omega) (by omega) hz
  unfold MakesScl at CM ⊢
  have HU := Lib.hid hu
  have HV := Lib.hid hv
  clear hu hv hx fx hz
  obtain ⟨L, HL, S⟩ := st_start w0; have F : True := trivial
  go_enter Tryz.func80, Tryz.ntmps80
  go_upto_region 1 with (first | (refine qbd 3 HL S ?_; clear F S HL; intro gl w L HL S F) | (refine qbd 4 HL S ?_; clear F S HL; intro gx w L HL S F) | (refine qal HL S zSMx ?_; clear F S HL; intro g6 w L HL S F))
  go_wp2_with (first | refine qLb6 S ?_ | (go_at_call 47; refine (CM _ (HU.out.at_ S) (HV.out.at_ S)).mono ?_; rintro e w ⟨u1, v1, o1, rfl, T0⟩; have hX := qcl HL S T0; clear F S HL T0; obtain ⟨L, HL, S, F⟩ := hX; obtain ⟨A', cap', rfl, hcap', hmax'⟩ := qSl HL S 1; obtain ⟨A', cap', rfl, hcap', hmax'⟩ := qSl HL S 2) | (refine qst HL S 3 ?_; clear F S HL; intro w L HL S F))
  refine ret3 rfl (resCell S HL 3 rfl rfl (by kernel_rfl)) (show _ = _ from rfl) (show _ = _ from rfl) rfl ?_
  exact ⟨_, _, _, rfl, (by rw [HL.out] at S; exact S.sel (by exact qSel))⟩
theorem C_l17_dense (w b x : SMx) (s : Int) (t u v : Value) (z : Scd) (w0 : World) (ht : SeesSMs w0 t [w, b]) (hu : Ints w0 u x.a.xs) (hv : Ints w0 v x.b.xs) (hw : w.ok = true) (hb : b.ok = true) (hx : x.ok = true) (hs : seedOk s = true)
    (e1 : w.a.c = x.a.r) (e2 : b.a.c = 1) (e3 : b.a.r = w.a.r) (hz : denseS w b x s = z) :
    Calls Tryz.prog 80 #[.agg #[.int .i64 1, t], .agg #[.int .i64 (x).a.r, .int .i64 (x).a.c, u, .int .i64 (x).b.r, .int .i64 (x).b.c, v], .int .i64 s] w0 (MakesScl w0 z) := by
  have CD := fun u1 u2 u3 u4 w' h1 h2 h3 h4 h5 h6 => C_spec_SDense w b x s z u1 u2 u3 u4 u v w' h1 h2 h3 h4 h5 h6 hw hb hx hs e1 e2 e3 hz
  obtain ⟨A, cap, rfl, hcap, hmax, hA⟩ := ht
  obtain ⟨bl, off, rfl, hbl, hcl⟩ := hA (Nat.succ_pos _)
  obtain ⟨u3, v3, e00, e01, e02, e03, e04, e05, hu3, hv3⟩ := hcl 0 w rfl
  have HU3 := Lib.hid hu3
  have HV3 := Lib.hid hv3
  have P0 := Lib.hid (show w0.cell? ⟨bl, off, none⟩ = _ from e00)
  have P1 := Lib.hid (show w0.cell? ⟨bl, off + 1, none⟩ = _ from e01)
  have P2 := Lib.hid (show w0.cell? ⟨bl, off + 2, none⟩ = _ from e02)
  have P3 := Lib.hid (show w0.cell? ⟨bl, off + 3, none⟩ = _ from e03)
  have P4 := Lib.hid (show w0.cell? ⟨bl, off + 4, none⟩ = _ from e04)
  have P5 := Lib.hid (show w0.cell? ⟨bl, off + 5, none⟩ = _ from e05)
  clear hu3 hv3 e00 e01 e02 e03 e04 e05
  obtain ⟨u4, v4, e10, e11, e12, e13, e14, e15, hu4, hv4⟩ := hcl 1 b rfl
  have HU4 := Lib.hid hu4
  have HV4 := Lib.hid hv4
  have Q0 := Lib.hid (show w0.cell? ⟨bl, off + 6, none⟩ = _ from e10)
  have Q1 := Lib.hid (show w0.cell? ⟨bl, off + 6 + 1, none⟩ = _ from e11)
  have Q2 := Lib.hid (show w0.cell? ⟨bl, off + 6 + 2, none⟩ = _ from e12)
  have Q3 := Lib.hid (show w0.cell? ⟨bl, off + 6 + 3, none⟩ = _ from e13)
  have Q4 := Lib.hid (show w0.cell? ⟨bl, off + 6 + 4, none⟩ = _ from e14)
  have Q5 := Lib.hid (show w0.cell? ⟨bl, off + 6 + 5, none⟩ = _ from e15)
  clear hu4 hv4 e10 e11 e12 e13 e14 e15
  have HU := Lib.hid hu
  have HV := Lib.hid hv
  unfold MakesScl at CD ⊢
  unfold maxLen at hmax
  have hcap' : 2 ≤ cap := hcap
  clear hu hv hw hb hx hs e1 e2 e3 hz hA hcl hcap
  obtain ⟨L, HL, S⟩ := st_start w0; have F : True := trivial
  go_enter Tryz.func80, Tryz.ntmps80
  go_upto_region 1 with (first | (refine qbd 3 HL S ?_; clear F S HL; intro gl w L HL S F) | (refine qbd 4 HL S ?_; clear F S HL; intro gx w L HL S F) | (refine qal HL S zSMx ?_; clear F S HL; intro g6 w L HL S F))
  go_upto_region 3 with fail
  have hT := congrArg (List.drop 1) HL.out; simp only [List.drop_succ_cons, List.drop_zero] at hT; obtain ⟨L1, hL1⟩ : ∃ M, M = L.drop 1 := ⟨_, rfl⟩; rw [← hL1] at hT; have HL0 := Lib.hid hT; have S1 := S.sub (List.drop_sublist 1 L); rw [← hL1] at S1; have F0 := qFc HL0 S1; clear S1 hL1 hT; refine wp_region_tree (S := fun w' => St w0 w' L1) (qcs 0 10 (.act 10 (.calm 11 (.calm 12 (.calm 13 (.act 14 (.calm 15 (.calm 16 .fin)) .stop)))) .stop)) (by kernel_rfl) (by kernel_rfl) (by kernel_rfl) (by intro c a d v w h; cases d <;> exact h) ?_; dsimp only [qcs, Nat.reduceAdd]; replace S := S.drew
  have f0 := fun w' (S' : St w0 w' L1) => (S'.below.cell (p := ⟨bl, off, none⟩) hbl).trans P0.out
  have f1 := fun w' (S' : St w0 w' L1) => (S'.below.cell (p := ⟨bl, off + 1, none⟩) hbl).trans P1.out
  have f2 := fun w' (S' : St w0 w' L1) => (S'.below.cell (p := ⟨bl, off + 2, none⟩) hbl).trans P2.out
  have f3 := fun w' (S' : St w0 w' L1) => (S'.below.cell (p := ⟨bl, off + 3, none⟩) hbl).trans P3.out
  have f4 := fun w' (S' : St w0 w' L1) => (S'.below.cell (p := ⟨bl, off + 4, none⟩) hbl).trans P4.out
  have f5 := fun w' (S' : St w0 w' L1) => (S'.below.cell (p := ⟨bl, off + 5, none⟩) hbl).trans P5.out
  have f6 := fun w' (S' : St w0 w' L1) => (S'.below.cell (p := ⟨bl, off + 6, none⟩) hbl).trans Q0.out
  have f7 := fun w' (S' : St w0 w' L1) => (S'.below.cell (p := ⟨bl, off + 6 + 1, none⟩) hbl).trans Q1.out
  have f8 := fun w' (S' : St w0 w' L1) => (S'.below.cell (p := ⟨bl, off + 6 + 2, none⟩) hbl).trans Q2.out
  have f9 := fun w' (S' : St w0 w' L1) => (S'.below.cell (p := ⟨bl, off + 6 + 3, none⟩) hbl).trans Q3.out
  have f10 := fun w' (S' : St w0 w' L1) => (S'.below.cell (p := ⟨bl, off + 6 + 4, none⟩) hbl).trans Q4.out
  have f11 := fun w' (S' : St w0 w' L1) => (S'.below.cell (p := ⟨bl, off + 6 + 5, none⟩) hbl).trans Q5.out
  repeat' (first | refine qTb6 ?_ | refine qCa ?_ | refine qAn ?_ | refine qSk ?_ | exact tree_stop | (refine tree_act rfl rfl ?_ ?_) | (intro K hK; (refine qsw HL S 3 ?_; clear F S HL; intro w L HL S F); (refine qKo hK ?_; clear hK K)) | (intro K hK; go_wp2_with (first | (go_at_call 125; refine (CD _ _ _ _ _ (HU3.out.at_ S) (HV3.out.at_ S) (HU4.out.at_ S) (HV4.out.at_ S) (HU.out.at_ S) (HV.out.at_ S)).mono ?_; rintro e w ⟨u1, v1, o1, rfl, T0⟩; have hX := qcl HL S T0; clear F S HL T0; obtain ⟨L, HL, S, F⟩ := hX; obtain ⟨A', cap', rfl, hcap', hmax'⟩ := qSl HL S 1; obtain ⟨A', cap', rfl, hcap', hmax'⟩ := qSl HL S 2)); (refine qKo hK ?_; clear hK K)))
  all_goals
    refine tree_fin ?_
    go_wp2
    refine ret3 rfl (resCell S HL 3 rfl rfl (by kernel_rfl)) (show _ = _ from rfl) (show _ = _ from rfl) rfl ?_
    exact ⟨_, _, _, rfl, (by rw [HL.out] at S; exact S.sel (by exact qSel))⟩
theorem C_l17_mix (a b c x : SMx) (s : Int) (t u v : Value) (z : Scd) (w0 : World) (CS : ∀ w, SeesSMs w t [a, b, c] → Ints w u x.a.xs → Ints w v x.b.xs → Calls Tryz.prog 11 #[t, .agg #[.int .i64 (x).a.r, .int .i64 (x).a.c, u, .int .i64 (x).b.r, .int .i64 (x).b.c, v], .int .i64 s] w (MakesScl w z))
    (ht : SeesSMs w0 t [a, b, c]) (hu : Ints w0 u x.a.xs) (hv : Ints w0 v x.b.xs) :
    Calls Tryz.prog 80 #[.agg #[.int .i64 3, t], .agg #[.int .i64 (x).a.r, .int .i64 (x).a.c, u, .int .i64 (x).b.r, .int .i64 (x).b.c, v], .int .i64 s] w0 (MakesScl w0 z) := by
  unfold MakesScl at CS ⊢
  have HT := Lib.hid ht
  have HU := Lib.hid hu
  have HV := Lib.hid hv
  clear hu hv
  obtain ⟨A, cap, rfl, _, _, _⟩ := ht
  obtain ⟨L, HL, S⟩ := st_start w0; have F : True := trivial
  go_enter Tryz.func80, Tryz.ntmps80
  go_upto_region 1 with (first | (refine qbd 3 HL S ?_; clear F S HL; intro gl w L HL S F) | (refine qbd 4 HL S ?_; clear F S HL; intro gx w L HL S F) | (refine qal HL S zSMx ?_; clear F S HL; intro g6 w L HL S F))
  go_wp2_with (first | refine qLb6 S ?_ | (go_at_call 11; refine (CS _ (HT.out.below S.below) (HU.out.at_ S) (HV.out.at_ S)).mono ?_; rintro e w ⟨u1, v1, o1, rfl, T0⟩; have hX := qcl HL S T0; clear F S HL T0; obtain ⟨L, HL, S, F⟩ := hX; obtain ⟨A', cap', rfl, hcap', hmax'⟩ := qSl HL S 1; obtain ⟨A', cap', rfl, hcap', hmax'⟩ := qSl HL S 2) | (refine qst HL S 3 ?_; clear F S HL; intro w L HL S F))
  refine ret3 rfl (resCell S HL 3 rfl rfl (by kernel_rfl)) (show _ = _ from rfl) (show _ = _ from rfl) rfl ?_
  exact ⟨_, _, _, rfl, (by rw [HL.out] at S; exact S.sel (by exact qSel))⟩
theorem C_l17_of (CS : ∀ (a b c x : SMx) (s : Int) (t u v : Value) (w0 : World), SeesSMs w0 t [a, b, c] → Ints w0 u x.a.xs → Ints w0 v x.b.xs → mixOk [a, b, c] x s = true → Calls Tryz.prog 11 #[t, .agg #[.int .i64 (x).a.r, .int .i64 (x).a.c, u, .int .i64 (x).b.r, .int .i64 (x).b.c, v], .int .i64 s] w0 (MakesScl w0 (mixS a b c x s)))
    (l : SLy) (x : SMx) (s : Int) (t u v : Value) (z : Scd) (p : Int × Int) (w0 : World) (ht : SeesSMs w0 t l.ws) (hu : Ints w0 u x.a.xs) (hv : Ints w0 v x.b.xs)
    (hl : (joinLy l).ok = true) (hx : x.ok = true) (hs : seedOk s = true) (hd : (joinLy l).sides x.a.r x.a.c = some p) (hz : stepS l x s = z) :
    Calls Tryz.prog 80 #[.agg #[.int .i64 l.kind, t], .agg #[.int .i64 (x).a.r, .int .i64 (x).a.c, u, .int .i64 (x).b.r, .int .i64 (x).b.c, v], .int .i64 s] w0 (MakesScl w0 z) := by
  rcases step_cases hl hx hs hd with rfl | ⟨w, b, rfl, hw, hb, e1, e2, e3⟩ | ⟨a, b, c, rfl, hm⟩
  · exact C_l17_map x s t u v z w0 hu hv hx hz
  · exact C_l17_dense w b x s t u v z w0 ht hu hv hw hb hx hs e1 e2 e3 hz
  · exact C_l17_mix a b c x s t u v z w0 (fun w h h' h2 => by rw [← hz]; exact CS a b c x s t u v w h h' h2 hm) ht hu hv
end
end Go.Proofs.YtjgfjfjboimgdaaGreat
