/- MtU -/
import Derived.Test.YtjgfjfjboimgdaaGreatY25
namespace Go.Proofs.YtjgfjfjboimgdaaGreat
set_option linter.unusedSimpArgs false
set_option linter.unusedVariables false
set_option linter.unusedSectionVars false
open Go Go.RowKit
set_option maxHeartbeats 8000000
set_option maxRecDepth 20000
section
attribute [local irreducible] wpList Oper.wp Calls
theorem C_spec_MulM (z : Prd) (u1 u2 u3 u4 t1 t2 t3 t4 t5 t6 : Value) (w0 : World) (hs : seedOk z.s = true) (r1 : 1 ≤ z.R) (r2 : z.R ≤ 5) (k1 : 1 ≤ z.K) (k2 : z.K ≤ 5) (d1 : 1 ≤ z.D) (d2 : z.D ≤ 5)
    (lxa : z.xa.length = z.R * z.K) (lxb : z.xb.length = z.R * z.K) (lya : z.ya.length = z.K * z.D) (lyb : z.yb.length = z.K * z.D) (axa : z.xa.all rv = true) (axb : z.xb.all rv = true) (aya : z.ya.all rv = true) (ayb : z.yb.all rv = true)
    (h1 : Ints w0 u1 z.xa) (h2 : Ints w0 u2 z.xb) (h3 : Ints w0 u3 z.ya) (h4 : Ints w0 u4 z.yb) (g1 : Ints w0 t1 z.a1) (g2 : Ints w0 t2 z.a2) (g3 : Ints w0 t3 z.b1) (g4 : Ints w0 t4 z.b2) (g5 : Ints w0 t5 z.c1) (g6 : Ints w0 t6 z.c2) :
    Calls Tryz.prog 127 #[.agg #[.int .i64 z.R, .int .i64 z.K, u1, .int .i64 z.R, .int .i64 z.K, u2], .agg #[.int .i64 z.K, .int .i64 z.D, u3, .int .i64 z.K, .int .i64 z.D, u4], .agg #[.int .i64 z.R, .int .i64 z.K, t1, .int .i64 z.R, .int .i64 z.K, t2, .int .i64 z.K, .int .i64 z.D, t3, .int .i64 z.K, .int .i64 z.D, t4, .int .i64 z.R, .int .i64 z.D, t5, .int .i64 z.R, .int .i64 z.D, t6]] w0 (MakesMulM w0 z.R z.K z.D z.fir z.sec z.d z.e) := by
  have la1 : z.a1.length = z.R * z.K := rndTo_length _ _
  have la2 : z.a2.length = z.R * z.K := rndTo_length _ _
  have lb1 : z.b1.length = z.K * z.D := rndTo_length _ _
  have lb2 : z.b2.length = z.K * z.D := rndTo_length _ _
  have lc1 : z.c1.length = z.R * z.D := rndTo_length _ _
  have lP : z.P.length = z.R * z.D := tab_length _ _
  have lc2 : z.c2.length = z.R * z.D := tab_length _ _
  have aa1 : z.a1.all rv = true := rndTo_all _ _
  have aa2 : z.a2.all rv = true := rndTo_all _ _
  have ab1 : z.b1.all rv = true := rndTo_all _ _
  have ab2 : z.b2.all rv = true := rndTo_all _ _
  have ac1 : z.c1.all rv = true := rndTo_all _ _
  have aP : z.P.all rv = true := mul_all
  have ac2 : z.c2.all rv = true := subs_all aP ac1
  have aA : z.A.all rv = true := sums_all aa1 aa2
  have aB : z.B.all rv = true := sums_all ab1 ab2
  have aX : z.X.all rv = true := sums_all axa axb
  have aY : z.Y.all rv = true := sums_all aya ayb
  have ad : z.d.all rv = true := subs_all aX aA
  have ae : z.e.all rv = true := subs_all aY aB
  have lA : z.A.length = z.R * z.K := tab_length _ _
  have lB : z.B.length = z.K * z.D := tab_length _ _
  have lX : z.X.length = z.R * z.K := tab_length _ _
  have lY : z.Y.length = z.K * z.D := tab_length _ _
  have ld : z.d.length = z.R * z.K := tab_length _ _
  have le : z.e.length = z.K * z.D := tab_length _ _
  have hm : ∀ p q, (z.mul p q).all rv = true := fun p q => mul_all
  have hA := add_like r1 r2 k1 k2 la1 la2 aa1 aa2
  have hB := add_like k1 k2 d1 d2 lb1 lb2 ab1 ab2
  have hX := add_like r1 r2 k1 k2 lxa lxb axa axb
  have hY := add_like k1 k2 d1 d2 lya lyb aya ayb
  have hlX := like_of r1 r2 k1 k2 lxa lxb axa axb
  have hlY := like_of k1 k2 d1 d2 lya lyb aya ayb
  have hC : sumMx ⟨z.R, z.D, z.c1⟩ ⟨z.R, z.D, z.c2⟩ = ⟨z.R, z.D, tab (z.R * z.D) (mulAt z.A z.B z.K z.D)⟩ := by
    rw [add_like r1 r2 d1 d2 lc1 lc2 ac1 ac2]
    exact congrArg (Mx.mk _ _) (sum_split lP aP ac1)
  have f1 : (z.add z.c1 (z.mul z.d z.b1)).all rv = true := sums_all ac1 (hm _ _)
  have f2 : (z.add (z.add z.c1 (z.mul z.d z.b1)) (z.mul z.a1 z.e)).all rv = true := sums_all f1 (hm _ _)
  have f4 : (z.add z.c2 (z.mul z.d z.b2)).all rv = true := sums_all ac2 (hm _ _)
  have n1 := side_le r2 k2
  have n2 := side_le k2 d2
  have n3 := side_le r2 d2
  have CO := fun w p1 p2 p3 p4 p5 p6 => C_ownMT z.R z.K z.D z.a1 z.a2 z.b1 z.b2 z.c1 z.c2 t1 t2 t3 t4 t5 t6 w p1 p2 p3 p4 p5 p6 (by omega) (by omega) (by omega) (by omega) (by omega) (by omega)
  have COX := fun w h h' => C_l1OwnSharedMatrix z.R z.K z.xa z.R z.K z.xb u1 u2 w h h' (by omega) (by omega)
  have COY := fun w h h' => C_l1OwnSharedMatrix z.K z.D z.ya z.K z.D z.yb u3 u4 w h h' (by omega) (by omega)
  have CT := fun t1 t2 t3 t4 t5 t6 w p1 p2 p3 p4 p5 p6 => C_spec_MTRight z.R z.K z.D z.a1 z.a2 z.b1 z.b2 z.c1 z.c2 z.A z.B t1 t2 t3 t4 t5 t6 w p1 p2 p3 p4 p5 p6 r1 r2 k1 k2 d1 d2 (like_of r1 r2 k1 k2 la1 la2 aa1 aa2) (like_of k1 k2 d1 d2 lb1 lb2 ab1 ab2) (like_of r1 r2 d1 d2 lc1 lc2 ac1 ac2) (by omega) (by omega) (by omega) (by omega) (by omega) (by omega) hA hB hC lA lB aA aB
  have LK1 := Lib.hid (show likeMx ⟨z.R, z.K, z.a1⟩ ⟨z.R, z.K, z.a2⟩ = true from like_of r1 r2 k1 k2 la1 la2 aa1 aa2)
  have hk1 : (Mx.mk z.R z.K z.xa).ok = true ∧ (Mx.mk z.R z.K z.a1).ok = true ∧ (Mx.mk z.K z.D z.ya).ok = true ∧ (Mx.mk z.K z.D z.b1).ok = true := ⟨Mx.ok_of r1 r2 k1 k2 lxa axa, Mx.ok_of r1 r2 k1 k2 la1 aa1, Mx.ok_of k1 k2 d1 d2 lya aya, Mx.ok_of k1 k2 d1 d2 lb1 ab1⟩
  have hlk1 := like_of r1 r2 k1 k2 lxa la1 axa aa1
  have hlk2 := like_of k1 k2 d1 d2 lya lb1 aya ab1
  have f1' := f1
  have CJX := fun u1 u2 w h h' => C_spec_JoinL z.R z.K z.xa z.R z.K z.xb u1 u2 _ w h h' (by omega) (by omega) hX
  have CJA := fun t1 t2 w h h' => C_spec_JoinL z.R z.K z.a1 z.R z.K z.a2 t1 t2 _ w h h' (by omega) (by omega) hA
  have CJY := fun u3 u4 w h h' => C_spec_JoinL z.K z.D z.ya z.K z.D z.yb u3 u4 _ w h h' (by omega) (by omega) hY
  have CJB := fun t3 t4 w h h' => C_spec_JoinL z.K z.D z.b1 z.K z.D z.b2 t3 t4 _ w h h' (by omega) (by omega) hB
  have CSD := fun u v w h h' => C_spec_SubMatrices z.R z.K _ z.X z.A u v w h h' r1 r2 k1 k2 rfl lX lA n1 aX aA
  have CSE := fun u v w h h' => C_spec_SubMatrices z.K z.D _ z.Y z.B u v w h h' k1 k2 d1 d2 rfl lY lB n2 aY aB
  have CM1 := fun u v w h h' => C_spec_Mul z.R z.K z.D z.d z.b1 u v w h h' r1 r2 k1 k2 d1 d2 ld lb1 ad ab1
  have CM2 := fun u v w h h' => C_spec_Mul z.R z.K z.D z.a1 z.e u v w h h' r1 r2 k1 k2 d1 d2 la1 le aa1 ae
  have CM3 := fun u v w h h' => C_spec_Mul z.R z.K z.D z.d z.e u v w h h' r1 r2 k1 k2 d1 d2 ld le ad ae
  have CM4 := fun u v w h h' => C_spec_Mul z.R z.K z.D z.d z.b2 u v w h h' r1 r2 k1 k2 d1 d2 ld lb2 ad ab2
  have CM5 := fun u v w h h' => C_spec_Mul z.R z.K z.D z.a2 z.e u v w h h' r1 r2 k1 k2 d1 d2 la2 le aa2 ae
  have CA1 := fun u v w h h' => C_spec_AddL z.R z.D _ z.c1 (z.mul z.d z.b1) u v w h h' r1 r2 d1 d2 rfl lc1 (z.mul_len _ _) n3 ac1 (hm _ _)
  have CA2 := fun u v w h h' => C_spec_AddL z.R z.D _ (z.add z.c1 (z.mul z.d z.b1)) (z.mul z.a1 z.e) u v w h h' r1 r2 d1 d2 rfl (z.add_len _ _) (z.mul_len _ _) n3 f1 (hm _ _)
  have CA3 := fun u v w h h' => C_spec_AddL z.R z.D _ (z.add (z.add z.c1 (z.mul z.d z.b1)) (z.mul z.a1 z.e)) (z.mul z.d z.e) u v w h h' r1 r2 d1 d2 rfl (z.add_len _ _) (z.mul_len _ _) n3 f2 (hm _ _)
  have CA4 := fun u v w h h' => C_spec_AddL z.R z.D _ z.c2 (z.mul z.d z.b2) u v w h h' r1 r2 d1 d2 rfl lc2 (z.mul_len _ _) n3 ac2 (hm _ _)
  have CA5 := fun u v w h h' => C_spec_AddL z.R z.D _ (z.add z.c2 (z.mul z.d z.b2)) (z.mul z.a2 z.e) u v w h h' r1 r2 d1 d2 rfl (z.add_len _ _) (z.mul_len _ _) n3 f4 (hm _ _)
  unfold MakesMx at CJX CJA CJY CJB CSD CSE CM1 CM2 CM3 CM4 CM5 CA1 CA2 CA3 CA4 CA5
  unfold MakesSMx at COX COY
  dsimp only at CJX CJA CJY CJB COX COY
  rw [tab_length] at CJX CJA CJY CJB CSD CSE CM1 CM2 CM3 CM4 CM5 CA1 CA2 CA3 CA4 CA5
  rw [lxa, lxb] at COX
  rw [lya, lyb] at COY
  rw [la1, la2, lb1, lb2, lc1, lc2] at CO
  rw [show tab (z.R * z.K) (sumsV z.xa z.xb) = z.X from rfl] at CJX
  rw [show tab (z.R * z.K) (sumsV z.a1 z.a2) = z.A from rfl] at CJA
  rw [show tab (z.K * z.D) (sumsV z.ya z.yb) = z.Y from rfl] at CJY
  rw [show tab (z.K * z.D) (sumsV z.b1 z.b2) = z.B from rfl] at CJB
  rw [show tab (z.R * z.K) (subV z.X z.A) = z.d from rfl] at CSD
  rw [show tab (z.K * z.D) (subV z.Y z.B) = z.e from rfl] at CSE
  rw [show tab (z.R * z.D) (mulAt z.d z.b1 z.K z.D) = z.mul z.d z.b1 from rfl] at CM1
  rw [show tab (z.R * z.D) (mulAt z.a1 z.e z.K z.D) = z.mul z.a1 z.e from rfl] at CM2
  rw [show tab (z.R * z.D) (mulAt z.d z.e z.K z.D) = z.mul z.d z.e from rfl] at CM3
  rw [show tab (z.R * z.D) (mulAt z.d z.b2 z.K z.D) = z.mul z.d z.b2 from rfl] at CM4
  rw [show tab (z.R * z.D) (mulAt z.a2 z.e z.K z.D) = z.mul z.a2 z.e from rfl] at CM5
  rw [show tab (z.R * z.D) (sumsV z.c1 (z.mul z.d z.b1)) = z.add z.c1 (z.mul z.d z.b1) from rfl] at CA1
  rw [show tab (z.R * z.D) (sumsV (z.add z.c1 (z.mul z.d z.b1)) (z.mul z.a1 z.e)) = z.add (z.add z.c1 (z.mul z.d z.b1)) (z.mul z.a1 z.e) from rfl] at CA2
  rw [show tab (z.R * z.D) (sumsV (z.add (z.add z.c1 (z.mul z.d z.b1)) (z.mul z.a1 z.e)) (z.mul z.d z.e)) = z.fir from rfl] at CA3
  rw [show tab (z.R * z.D) (sumsV z.c2 (z.mul z.d z.b2)) = z.add z.c2 (z.mul z.d z.b2) from rfl] at CA4
  rw [show tab (z.R * z.D) (sumsV (z.add z.c2 (z.mul z.d z.b2)) (z.mul z.a2 z.e)) = z.sec from rfl] at CA5
  unfold MakesMulM
  have LX := Lib.hid lX
  have LA := Lib.hid lA
  have LY := Lib.hid lY
  have LB := Lib.hid lB
  have LD := Lib.hid ld
  have LE := Lib.hid le
  have LM1 := Lib.hid (z.mul_len z.d z.b1)
  have LM2 := Lib.hid (z.mul_len z.a1 z.e)
  have LM3 := Lib.hid (z.mul_len z.d z.e)
  have LM4 := Lib.hid (z.mul_len z.d z.b2)
  have LM5 := Lib.hid (z.mul_len z.a2 z.e)
  have LS1 := Lib.hid (z.add_len z.c1 (z.mul z.d z.b1))
  have LS2 := Lib.hid (z.add_len (z.add z.c1 (z.mul z.d z.b1)) (z.mul z.a1 z.e))
  have LS4 := Lib.hid (z.add_len z.c2 (z.mul z.d z.b2))
  have LXA := Lib.hid lxa
  have LXB := Lib.hid lxb
  have LYA := Lib.hid lya
  have LYB := Lib.hid lyb
  have LA1 := Lib.hid la1
  have LA2 := Lib.hid la2
  have LB1 := Lib.hid lb1
  have LB2 := Lib.hid lb2
  have LC1 := Lib.hid lc1
  have LC2 := Lib.hid lc2
  have HL1 := Lib.hid hlk1
  have HL2 := Lib.hid hlk2
  have HX1 := Lib.hid h1
  have HX2 := Lib.hid h2
  have HX3 := Lib.hid h3
  have HX4 := Lib.hid h4
  have G1 := Lib.hid g1
  have G2 := Lib.hid g2
  have G3 := Lib.hid g3
  have G4 := Lib.hid g4
  have G5 := Lib.hid g5
  have G6 := Lib.hid g6
  have HLX := Lib.hid hlX
  have HLY := Lib.hid hlY
  clear hs r1 r2 k1 k2 d1 d2 lxa lxb lya lyb axa axb aya ayb h1 h2 h3 h4 g1 g2 g3 g4 g5 g6 la1 la2 lb1 lb2 lc1 lP lc2 aa1 aa2 ab1 ab2 ac1 aP ac2 aA aB aX aY ad ae lA lB lX lY ld le hm hA hB hX hY hlX hlY hC f1 f2 f4 f1' hk1 hlk1 hlk2 LK1 n1 n2 n3
  generalize z.fir = yf at *
  generalize z.sec = ys at *
  generalize z.add (z.add z.c1 (z.mul z.d z.b1)) (z.mul z.a1 z.e) = s2 at *
  generalize z.add z.c1 (z.mul z.d z.b1) = s1 at *
  generalize z.add z.c2 (z.mul z.d z.b2) = s4 at *
  generalize z.mul z.d z.b1 = m1 at *
  generalize z.mul z.a1 z.e = m2 at *
  generalize z.mul z.d z.e = m3 at *
  generalize z.mul z.d z.b2 = m4 at *
  generalize z.mul z.a2 z.e = m5 at *
  generalize z.R * z.K = NA at *
  generalize z.K * z.D = NB at *
  generalize z.R * z.D = NC at *
  generalize z.d = yd at *
  generalize z.e = ye at *
  generalize z.X = yX at *
  generalize z.A = yA at *
  generalize z.Y = yY at *
  generalize z.B = yB at *
  generalize z.c2 = yc2 at *
  generalize z.c1 = yc1 at *
  generalize z.b2 = yb2 at *
  generalize z.b1 = yb1 at *
  generalize z.a2 = ya2 at *
  generalize z.a1 = ya1 at *
  generalize z.xa = xa at *
  generalize z.xb = xb at *
  generalize z.ya = ya at *
  generalize z.yb = yb at *
  generalize z.R = R at *
  generalize z.K = K at *
  generalize z.D = D at *
  obtain ⟨L, HL, S⟩ := st_start w0; have F : True := trivial
  go_enter Tryz.func127, Tryz.ntmps127
  go_upto_region 1 with (first | (refine qbd 3 HL S ?_; clear F S HL; intro gx w L HL S F) | (refine qbd 4 HL S ?_; clear F S HL; intro gy w L HL S F) | (refine qbd 5 HL S ?_; clear F S HL; intro gt w L HL S F) | (refine qal HL S zSMx ?_; clear F S HL; intro g6 w L HL S F) | (refine qal HL S zMx ?_; clear F S HL; intro g7 w L HL S F))
  (rw [HL.out] at S; have T := (((S.toObj (p := 0) rfl).toObj (p := 1) rfl).toObj (p := 2) rfl); clear S HL F; have S := T; clear T; (try simp only [List.set_cons_zero, List.set_cons_succ] at S); obtain ⟨L, hM, T⟩ := st_name S; clear S; have S := T; clear T; have HL := Lib.hid hM; clear hM; have F := qFc HL S)
  go_upto_region 2 with (first | refine qLb6 S ?_ | (go_at_call 42; refine (COX _ (HX1.out.at_ S) (HX2.out.at_ S)).mono ?_; rintro e w ⟨u, v, rfl, T0⟩; have hX := qcl HL S T0; clear F S HL T0; obtain ⟨L, HL, S, F⟩ := hX; obtain ⟨A', cap', rfl, hcap', hmax'⟩ := qSl HL S 0; obtain ⟨A', cap', rfl, hcap', hmax'⟩ := qSl HL S 1) | (refine qst HL S 7 ?_; clear F S HL; intro w L HL S F))
  (rw [HL.out] at S; have T := (S.toObj (p := 7) rfl); clear S HL F; have S := T; clear T; (try simp only [List.set_cons_zero, List.set_cons_succ] at S); obtain ⟨L, hM, T⟩ := st_name S; clear S; have S := T; clear T; have HL := Lib.hid hM; clear hM; have F := qFc HL S)
  go_upto_region 3 with (first | refine qLb6 S ?_ | (go_at_call 42; refine (COY _ (HX3.out.at_ S) (HX4.out.at_ S)).mono ?_; rintro e w ⟨u, v, rfl, T0⟩; have hX := qcl HL S T0; clear F S HL T0; obtain ⟨L, HL, S, F⟩ := hX; obtain ⟨A', cap', rfl, hcap', hmax'⟩ := qSl HL S 0; obtain ⟨A', cap', rfl, hcap', hmax'⟩ := qSl HL S 1) | (refine qst HL S 8 ?_; clear F S HL; intro w L HL S F))
  (rw [HL.out] at S; have T := (S.toObj (p := 8) rfl); clear S HL F; have S := T; clear T; (try simp only [List.set_cons_zero, List.set_cons_succ] at S); obtain ⟨L, hM, T⟩ := st_name S; clear S; have S := T; clear T; have HL := Lib.hid hM; clear hM; have F := qFc HL S)
  go_upto_region 4 with (first | refine qLb18 S ?_ | (go_at_call 163; refine (CO _ (G1.out.at_ S) (G2.out.at_ S) (G3.out.at_ S) (G4.out.at_ S) (G5.out.at_ S) (G6.out.at_ S)).mono ?_; rintro e w ⟨v1, v2, v3, v4, v5, v6, rfl, T0⟩; have hX := qcl HL S T0; clear F S HL T0; obtain ⟨L, HL, S, F⟩ := hX; obtain ⟨A', cap', rfl, hcap', hmax'⟩ := qSl HL S 0; obtain ⟨A', cap', rfl, hcap', hmax'⟩ := qSl HL S 1; obtain ⟨A', cap', rfl, hcap', hmax'⟩ := qSl HL S 2; obtain ⟨A', cap', rfl, hcap', hmax'⟩ := qSl HL S 3; obtain ⟨A', cap', rfl, hcap', hmax'⟩ := qSl HL S 4; obtain ⟨A', cap', rfl, hcap', hmax'⟩ := qSl HL S 5) | (refine qst HL S 13 ?_; clear F S HL; intro w L HL S F))
  (rw [HL.out] at S; have T := (S.toObj (p := 13) rfl); clear S HL F; have S := T; clear T; (try simp only [List.set_cons_zero, List.set_cons_succ] at S); obtain ⟨L, hM, T⟩ := st_name S; clear S; have S := T; clear T; have HL := Lib.hid hM; clear hM; have F := qFc HL S)
  clear CO COX COY
  go_upto_region 6 with (first | refine qLo6 S ?_ | refine qLo18 S ?_ | refine qLo3 S ?_ | (go_at_call 43; refine qGr S (C_spec_SharedMatrixValid _ _ _ _ _ _ _ _ _ _ (by first | (unfold Ints; rw [LXA.out]; exact (Sees.row S qAt)) | (unfold Ints; rw [LYA.out]; exact (Sees.row S qAt))) (by first | (unfold Ints; rw [LXB.out]; exact (Sees.row S qAt)) | (unfold Ints; rw [LYB.out]; exact (Sees.row S qAt))) (by first | exact HLX.out | exact HLY.out)) ?_; clear S; intro w S) | (go_at_call 164; refine qGr S (CT _ _ _ _ _ _ _ (by unfold Ints; rw [LA1.out]; exact (Sees.row S qAt)) (by unfold Ints; rw [LA2.out]; exact (Sees.row S qAt)) (by unfold Ints; rw [LB1.out]; exact (Sees.row S qAt)) (by unfold Ints; rw [LB2.out]; exact (Sees.row S qAt)) (by unfold Ints; rw [LC1.out]; exact (Sees.row S qAt)) (by unfold Ints; rw [LC2.out]; exact (Sees.row S qAt))) ?_; clear S; intro w S) | (go_at_call 89; refine qGr S (C_spec_l3Like _ _ _ _ _ _ _ _ _ _ (by first | (unfold Ints; rw [LXA.out]; exact (Sees.row S qAt)) | (unfold Ints; rw [LYA.out]; exact (Sees.row S qAt))) (by first | (unfold Ints; rw [LA1.out]; exact (Sees.row S qAt)) | (unfold Ints; rw [LB1.out]; exact (Sees.row S qAt))) (by first | exact HL1.out | exact HL2.out)) ?_; clear S; intro w S))
  clear CT
  (try simp only [Act.put, qP0, qP1, qP2])
  go_cut [10] (fun v w => ∃ (g : Nat) (A : Option Addr) (cap : Nat), v = .pointer (some ⟨g, 0, none⟩) ∧ NA ≤ cap ∧ cap ≤ maxLen ∧ St w0 w (.obj g (.cells [.int .i64 R, .int .i64 K, .slice A NA cap].toArray 30 (0, 0)) :: .row 3 1 (.slice A NA cap) NA (ints yd) :: L))
  case first =>
    have HL0 := HL; have F0 := F; refine wp_region_tree (S := fun w' => St w0 w' L) (.calm 0 (.calm 2 (.calm 3 (.act 1 (.act 4 (.act 5 (.act 6 (.act 7 .fin .stop) .stop) (.act 6 (.act 5 (.act 7 .fin .stop) .stop) .stop)) (.act 6 (.act 4 (.act 5 (.act 7 .fin .stop) .stop) .stop) .stop)) (.act 6 (.act 1 (.act 4 (.act 5 (.act 7 .fin .stop) .stop) .stop) .stop) .stop))))) (by kernel_rfl) (by kernel_rfl) (by kernel_rfl) (by intro c a d v w h; cases d <;> exact h) ?_; replace S := S.drew
    repeat' (first | refine qTo6 ?_ | refine qTo3 ?_ | refine qCa ?_ | refine qAn ?_ | refine qSk ?_ | exact tree_stop | (refine tree_act rfl rfl ?_ ?_) | (intro K hK; (refine qaw HL S zMx ?_; clear F S HL; intro g w L HL S F); (refine qKo hK ?_; clear hK K)) | (intro K hK; (refine qsw HL S 0 ?_; clear F S HL; intro w L HL S F); (refine qKo hK ?_; clear hK K)) | (intro K hK; (refine qsw HL S 1 ?_; clear F S HL; intro w L HL S F); (refine qKo hK ?_; clear hK K)) | (intro K hK; (refine qsw HL S 2 ?_; clear F S HL; intro w L HL S F); (refine qKo hK ?_; clear hK K)) | (intro K hK; (refine qsw HL S 3 ?_; clear F S HL; intro w L HL S F); (refine qKo hK ?_; clear hK K)) | (intro K hK; go_wp2_with (first | (go_at_call 122; refine (CJX _ _ _ (by unfold Ints; rw [LXA.out]; exact (Sees.row S qAt)) (by unfold Ints; rw [LXB.out]; exact (Sees.row S qAt))).mono ?_; rintro e w ⟨u, rfl, T0⟩; have hX := qcl HL S T0; clear F S HL T0; obtain ⟨L, HL, S, F⟩ := hX; obtain ⟨A', cap', rfl, hcap', hmax'⟩ := qSl HL S 0) | (go_at_call 122; refine (CJA _ _ _ (by unfold Ints; rw [LA1.out]; exact (Sees.row S qAt)) (by unfold Ints; rw [LA2.out]; exact (Sees.row S qAt))).mono ?_; rintro e w ⟨u, rfl, T0⟩; have hX := qcl HL S T0; clear F S HL T0; obtain ⟨L, HL, S, F⟩ := hX; obtain ⟨A', cap', rfl, hcap', hmax'⟩ := qSl HL S 0) | (go_at_call 155; refine (CSD _ _ _ (by unfold Ints; rw [LX.out]; exact (Sees.row S qAt)) (by unfold Ints; rw [LA.out]; exact (Sees.row S qAt))).mono ?_; rintro e w ⟨u, rfl, T0⟩; have hX := qcl HL S T0; clear F S HL T0; obtain ⟨L, HL, S, F⟩ := hX; obtain ⟨A', cap', rfl, hcap', hmax'⟩ := qSl HL S 0)); (refine qKo hK ?_; clear hK K)))
    all_goals
      refine tree_fin ?_
      go_wp2_with fail
      go_meet
      refine ⟨_, A', cap', rfl, hcap', hmax', ?_⟩
      rw [HL0.out]
      rw [HL.out] at S
      exact (S.sel (M := .box _ 30 _ :: _) (by exact qQ2)).toObj (p := 0) rfl
  case rest =>
  obtain ⟨gd, Ad, cd, rfl, hcd, hmd, T0⟩ := hcut
  obtain ⟨L, hM, T⟩ := st_name T0
  clear T0
  clear F S; replace HL := qNm HL hM; clear hM; have S := T; clear T; have F := qFc HL S
  go_upto_region 7 with fail
  (try simp only [Act.put, qP0, qP1, qP2])
  go_cut [11] (fun v w => ∃ (g : Nat) (A : Option Addr) (cap : Nat), v = .pointer (some ⟨g, 0, none⟩) ∧ NB ≤ cap ∧ cap ≤ maxLen ∧ St w0 w (.obj g (.cells [.int .i64 K, .int .i64 D, .slice A NB cap].toArray 30 (0, 0)) :: .row 3 1 (.slice A NB cap) NB (ints ye) :: L))
  case first =>
    have HL0 := HL; have F0 := F; refine wp_region_tree (S := fun w' => St w0 w' L) (.calm 0 (.calm 2 (.calm 3 (.act 1 (.act 4 (.act 5 (.act 6 (.act 7 .fin .stop) .stop) (.act 6 (.act 5 (.act 7 .fin .stop) .stop) .stop)) (.act 6 (.act 4 (.act 5 (.act 7 .fin .stop) .stop) .stop) .stop)) (.act 6 (.act 1 (.act 4 (.act 5 (.act 7 .fin .stop) .stop) .stop) .stop) .stop))))) (by kernel_rfl) (by kernel_rfl) (by kernel_rfl) (by intro c a d v w h; cases d <;> exact h) ?_; replace S := S.drew
    repeat' (first | refine qTo6 ?_ | refine qTo3 ?_ | refine qCa ?_ | refine qAn ?_ | refine qSk ?_ | exact tree_stop | (refine tree_act rfl rfl ?_ ?_) | (intro K hK; (refine qaw HL S zMx ?_; clear F S HL; intro g w L HL S F); (refine qKo hK ?_; clear hK K)) | (intro K hK; (refine qsw HL S 0 ?_; clear F S HL; intro w L HL S F); (refine qKo hK ?_; clear hK K)) | (intro K hK; (refine qsw HL S 1 ?_; clear F S HL; intro w L HL S F); (refine qKo hK ?_; clear hK K)) | (intro K hK; (refine qsw HL S 2 ?_; clear F S HL; intro w L HL S F); (refine qKo hK ?_; clear hK K)) | (intro K hK; (refine qsw HL S 3 ?_; clear F S HL; intro w L HL S F); (refine qKo hK ?_; clear hK K)) | (intro K hK; go_wp2_with (first | (go_at_call 122; refine (CJY _ _ _ (by unfold Ints; rw [LYA.out]; exact (Sees.row S qAt)) (by unfold Ints; rw [LYB.out]; exact (Sees.row S qAt))).mono ?_; rintro e w ⟨u, rfl, T0⟩; have hX := qcl HL S T0; clear F S HL T0; obtain ⟨L, HL, S, F⟩ := hX; obtain ⟨A', cap', rfl, hcap', hmax'⟩ := qSl HL S 0) | (go_at_call 122; refine (CJB _ _ _ (by unfold Ints; rw [LB1.out]; exact (Sees.row S qAt)) (by unfold Ints; rw [LB2.out]; exact (Sees.row S qAt))).mono ?_; rintro e w ⟨u, rfl, T0⟩; have hX := qcl HL S T0; clear F S HL T0; obtain ⟨L, HL, S, F⟩ := hX; obtain ⟨A', cap', rfl, hcap', hmax'⟩ := qSl HL S 0) | (go_at_call 155; refine (CSE _ _ _ (by unfold Ints; rw [LY.out]; exact (Sees.row S qAt)) (by unfold Ints; rw [LB.out]; exact (Sees.row S qAt))).mono ?_; rintro e w ⟨u, rfl, T0⟩; have hX := qcl HL S T0; clear F S HL T0; obtain ⟨L, HL, S, F⟩ := hX; obtain ⟨A', cap', rfl, hcap', hmax'⟩ := qSl HL S 0)); (refine qKo hK ?_; clear hK K)))
    all_goals
      refine tree_fin ?_
      go_wp2_with fail
      go_meet
      refine ⟨_, A', cap', rfl, hcap', hmax', ?_⟩
      rw [HL0.out]
      rw [HL.out] at S
      exact (S.sel (M := .box _ 30 _ :: _) (by exact qQ2)).toObj (p := 0) rfl
  case rest =>
  obtain ⟨ge, Ae, ce, rfl, hce, hme, T0⟩ := hcut
  obtain ⟨L, hM, T⟩ := st_name T0
  clear T0
  clear F S; replace HL := qNm HL hM; clear hM; have S := T; clear T; have F := qFc HL S
  clear CJX CJA CJY CJB CSD CSE
  go_upto_region 8 with fail
  (try simp only [Act.put, qP0, qP1, qP2])
  go_cut [12] (fun v w => ∃ (g : Nat) (A : Option Addr) (cap : Nat), v = .pointer (some ⟨g, 0, none⟩) ∧ NC ≤ cap ∧ cap ≤ maxLen ∧ St w0 w (.obj g (.cells [.int .i64 R, .int .i64 D, .slice A NC cap].toArray 30 (0, 0)) :: .row 3 1 (.slice A NC cap) NC (ints s2) :: L))
  case first =>
    have HL0 := HL; have F0 := F; refine wp_region_tree (S := fun w' => St w0 w' L) (qcs 0 7 (qcs 9 4 (.act 7 (.act 8 (.act 13 (.act 14 (.act 15 (.act 16 .fin .stop) .stop) (.act 15 (.act 14 (.act 16 .fin .stop) .stop) .stop)) (.act 15 (.act 13 (.act 14 (.act 16 .fin .stop) .stop) .stop) .stop)) (.act 15 (.act 8 (.act 13 (.act 14 (.act 16 .fin .stop) .stop) .stop) .stop) .stop)) (.act 15 (.act 7 (.act 8 (.act 13 (.act 14 (.act 16 .fin .stop) .stop) .stop) .stop) .stop) .stop)))) (by kernel_rfl) (by kernel_rfl) (by kernel_rfl) (by intro c a d v w h; cases d <;> exact h) ?_; dsimp only [qcs, Nat.reduceAdd]; replace S := S.drew
    repeat' (first | refine qTo6 ?_ | refine qTo3 ?_ | refine qCa ?_ | refine qAn ?_ | refine qSk ?_ | exact tree_stop | (refine tree_act rfl rfl ?_ ?_) | (intro K hK; (refine qaw HL S zMx ?_; clear F S HL; intro g w L HL S F); (refine qKo hK ?_; clear hK K)) | (intro K hK; (refine qsw HL S 0 ?_; clear F S HL; intro w L HL S F); (refine qKo hK ?_; clear hK K)) | (intro K hK; (refine qsw HL S 1 ?_; clear F S HL; intro w L HL S F); (refine qKo hK ?_; clear hK K)) | (intro K hK; (refine qsw HL S 2 ?_; clear F S HL; intro w L HL S F); (refine qKo hK ?_; clear hK K)) | (intro K hK; (refine qsw HL S 3 ?_; clear F S HL; intro w L HL S F); (refine qKo hK ?_; clear hK K)) | (intro K hK; (refine qsw HL S 4 ?_; clear F S HL; intro w L HL S F); (refine qKo hK ?_; clear hK K)) | (intro K hK; go_wp2_with (first | (go_at_call 162; refine (CM1 _ _ _ (by unfold Ints; rw [LD.out]; exact (Sees.row S qAt)) (by unfold Ints; rw [LB1.out]; exact (Sees.row S qAt))).mono ?_; rintro e w ⟨u, rfl, T0⟩; have hX := qcl HL S T0; clear F S HL T0; obtain ⟨L, HL, S, F⟩ := hX; obtain ⟨A', cap', rfl, hcap', hmax'⟩ := qSl HL S 0) | (go_at_call 159; refine (CA1 _ _ _ (by unfold Ints; rw [LC1.out]; exact (Sees.row S qAt)) (by unfold Ints; rw [LM1.out]; exact (Sees.row S qAt))).mono ?_; rintro e w ⟨u, rfl, T0⟩; have hX := qcl HL S T0; clear F S HL T0; obtain ⟨L, HL, S, F⟩ := hX; obtain ⟨A', cap', rfl, hcap', hmax'⟩ := qSl HL S 0) | (go_at_call 162; refine (CM2 _ _ _ (by unfold Ints; rw [LA1.out]; exact (Sees.row S qAt)) (by unfold Ints; rw [LE.out]; exact (Sees.row S qAt))).mono ?_; rintro e w ⟨u, rfl, T0⟩; have hX := qcl HL S T0; clear F S HL T0; obtain ⟨L, HL, S, F⟩ := hX; obtain ⟨A', cap', rfl, hcap', hmax'⟩ := qSl HL S 0) | (go_at_call 159; refine (CA2 _ _ _ (by unfold Ints; rw [LS1.out]; exact (Sees.row S qAt)) (by unfold Ints; rw [LM2.out]; exact (Sees.row S qAt))).mono ?_; rintro e w ⟨u, rfl, T0⟩; have hX := qcl HL S T0; clear F S HL T0; obtain ⟨L, HL, S, F⟩ := hX; obtain ⟨A', cap', rfl, hcap', hmax'⟩ := qSl HL S 0)); (refine qKo hK ?_; clear hK K)))
    all_goals
      refine tree_fin ?_
      go_wp2_with fail
      go_meet
      refine ⟨_, A', cap', rfl, hcap', hmax', ?_⟩
      rw [HL0.out]
      rw [HL.out] at S
      exact (S.sel (M := .box _ 30 _ :: _) (by exact qQ2)).toObj (p := 0) rfl
  case rest =>
  obtain ⟨gf, Af, cf, rfl, hcf, hmf, T0⟩ := hcut
  obtain ⟨L, hM, T⟩ := st_name T0
  clear T0
  clear F S; replace HL := qNm HL hM; clear hM; have S := T; clear T; have F := qFc HL S
  clear CM1 CM2 CA1 CA2
  go_upto_region 9 with fail
  (try simp only [Act.put, qP0, qP1, qP2])
  go_cut [13] (fun v w => ∃ (g : Nat) (A : Option Addr) (cap : Nat), v = .pointer (some ⟨g, 0, none⟩) ∧ NC ≤ cap ∧ cap ≤ maxLen ∧ St w0 w (.obj g (.cells [.int .i64 R, .int .i64 D, .slice A NC cap].toArray 30 (0, 0)) :: .row 3 1 (.slice A NC cap) NC (ints ys) :: L))
  case first =>
    have HL0 := HL; have F0 := F; refine wp_region_tree (S := fun w' => St w0 w' L) (qcs 0 7 (qcs 9 4 (.act 7 (.act 8 (.act 13 (.act 14 (.act 15 (.act 16 .fin .stop) .stop) (.act 15 (.act 14 (.act 16 .fin .stop) .stop) .stop)) (.act 15 (.act 13 (.act 14 (.act 16 .fin .stop) .stop) .stop) .stop)) (.act 15 (.act 8 (.act 13 (.act 14 (.act 16 .fin .stop) .stop) .stop) .stop) .stop)) (.act 15 (.act 7 (.act 8 (.act 13 (.act 14 (.act 16 .fin .stop) .stop) .stop) .stop) .stop) .stop)))) (by kernel_rfl) (by kernel_rfl) (by kernel_rfl) (by intro c a d v w h; cases d <;> exact h) ?_; dsimp only [qcs, Nat.reduceAdd]; replace S := S.drew
    repeat' (first | refine qTo6 ?_ | refine qTo3 ?_ | refine qCa ?_ | refine qAn ?_ | refine qSk ?_ | exact tree_stop | (refine tree_act rfl rfl ?_ ?_) | (intro K hK; (refine qaw HL S zMx ?_; clear F S HL; intro g w L HL S F); (refine qKo hK ?_; clear hK K)) | (intro K hK; (refine qsw HL S 0 ?_; clear F S HL; intro w L HL S F); (refine qKo hK ?_; clear hK K)) | (intro K hK; (refine qsw HL S 1 ?_; clear F S HL; intro w L HL S F); (refine qKo hK ?_; clear hK K)) | (intro K hK; (refine qsw HL S 2 ?_; clear F S HL; intro w L HL S F); (refine qKo hK ?_; clear hK K)) | (intro K hK; (refine qsw HL S 3 ?_; clear F S HL; intro w L HL S F); (refine qKo hK ?_; clear hK K)) | (intro K hK; (refine qsw HL S 4 ?_; clear F S HL; intro w L HL S F); (refine qKo hK ?_; clear hK K)) | (intro K hK; go_wp2_with (first | (go_at_call 162; refine (CM4 _ _ _ (by unfold Ints; rw [LD.out]; exact (Sees.row S qAt)) (by unfold Ints; rw [LB2.out]; exact (Sees.row S qAt))).mono ?_; rintro e w ⟨u, rfl, T0⟩; have hX := qcl HL S T0; clear F S HL T0; obtain ⟨L, HL, S, F⟩ := hX; obtain ⟨A', cap', rfl, hcap', hmax'⟩ := qSl HL S 0) | (go_at_call 159; refine (CA4 _ _ _ (by unfold Ints; rw [LC2.out]; exact (Sees.row S qAt)) (by unfold Ints; rw [LM4.out]; exact (Sees.row S qAt))).mono ?_; rintro e w ⟨u, rfl, T0⟩; have hX := qcl HL S T0; clear F S HL T0; obtain ⟨L, HL, S, F⟩ := hX; obtain ⟨A', cap', rfl, hcap', hmax'⟩ := qSl HL S 0) | (go_at_call 162; refine (CM5 _ _ _ (by unfold Ints; rw [LA2.out]; exact (Sees.row S qAt)) (by unfold Ints; rw [LE.out]; exact (Sees.row S qAt))).mono ?_; rintro e w ⟨u, rfl, T0⟩; have hX := qcl HL S T0; clear F S HL T0; obtain ⟨L, HL, S, F⟩ := hX; obtain ⟨A', cap', rfl, hcap', hmax'⟩ := qSl HL S 0) | (go_at_call 159; refine (CA5 _ _ _ (by unfold Ints; rw [LS4.out]; exact (Sees.row S qAt)) (by unfold Ints; rw [LM5.out]; exact (Sees.row S qAt))).mono ?_; rintro e w ⟨u, rfl, T0⟩; have hX := qcl HL S T0; clear F S HL T0; obtain ⟨L, HL, S, F⟩ := hX; obtain ⟨A', cap', rfl, hcap', hmax'⟩ := qSl HL S 0)); (refine qKo hK ?_; clear hK K)))
    all_goals
      refine tree_fin ?_
      go_wp2_with fail
      go_meet
      refine ⟨_, A', cap', rfl, hcap', hmax', ?_⟩
      rw [HL0.out]
      rw [HL.out] at S
      exact (S.sel (M := .box _ 30 _ :: _) (by exact qQ2)).toObj (p := 0) rfl
  case rest =>
  obtain ⟨gs, As, cs, rfl, hcs, hms, T0⟩ := hcut
  obtain ⟨L, hM, T⟩ := st_name T0
  clear T0
  clear F S; replace HL := qNm HL hM; clear hM; have S := T; clear T; have F := qFc HL S
  clear CM4 CM5 CA4 CA5
  go_upto_region 10 with fail
  (rw [HL.out] at S; have T := (((S.toBox (p := 18) rfl).toBox (p := 19) rfl).toBox (p := 20) rfl); clear S HL F; have S := T; clear T; (try simp only [List.set_cons_zero, List.set_cons_succ] at S); obtain ⟨L, hM, T⟩ := st_name S; clear S; have S := T; clear T; have HL := Lib.hid hM; clear hM; have F := qFc HL S)
  rw [HL.out] at S
  have T := S.sel (M := .box g6 _ _ :: _ :: _ :: _) (Sel.cons 20 rfl (Sel.cons 18 rfl (Sel.cons 18 rfl (Sel.tail (.refl _)))))
  clear S HL F
  have S := T
  clear T
  simp only [List.eraseIdx_cons_succ, List.eraseIdx_cons_zero] at S
  obtain ⟨L, hM, T⟩ := st_name S; clear S; have S := T; clear T; have HL := Lib.hid hM; clear hM; have F := qFc HL S
  have hT := congrArg (List.drop 3) HL.out; simp only [List.drop_succ_cons, List.drop_zero] at hT; obtain ⟨L1, hL1⟩ : ∃ M, M = L.drop 3 := ⟨_, rfl⟩; rw [← hL1] at hT; have HL0 := Lib.hid hT; have S1 := S.sub (List.drop_sublist 3 L); rw [← hL1] at S1; have F0 := qFc HL0 S1; clear S1 hL1 hT; refine wp_region_tree (S := fun w' => St w0 w' L1) (qcs 0 3 (.calm 5 (.calm 7 (.calm 8 (.act 3 (.act 4 (.calm 6 (.act 9 (.act 10 (.act 11 (.calm 12 .fin) .stop) .stop) .stop)) .stop) .stop))))) (by kernel_rfl) (by kernel_rfl) (by kernel_rfl) (by intro c a d v w h; cases d <;> exact h) ?_; dsimp only [qcs, Nat.reduceAdd]; replace S := S.drew
  repeat (first | refine qTo3 ?_ | refine qCa ?_ | refine qAn ?_ | refine qSk ?_ | (refine tree_act rfl rfl ?_ tree_stop; intro K hK; (refine qsw HL S 2 ?_; clear F S HL; intro w L HL S F); (refine qKo hK ?_; clear hK K)) | (refine tree_act rfl rfl ?_ tree_stop; intro K hK; (refine qsw HL S 3 ?_; clear F S HL; intro w L HL S F); (refine qKo hK ?_; clear hK K)) | (refine tree_act rfl rfl ?_ tree_stop; intro K hK; (refine qsw HL S 4 ?_; clear F S HL; intro w L HL S F); (refine qKo hK ?_; clear hK K)) | (refine tree_act rfl rfl ?_ tree_stop; intro K hK; go_wp2_with (first | (go_at_call 162; refine (CM3 _ _ _ (by unfold Ints; rw [LD.out]; exact (Sees.row S qAt)) (by unfold Ints; rw [LE.out]; exact (Sees.row S qAt))).mono ?_; rintro e w ⟨u, rfl, T0⟩; have hX := qcl HL S T0; clear F S HL T0; obtain ⟨L, HL, S, F⟩ := hX; obtain ⟨A', cap', rfl, hcap', hmax'⟩ := qSl HL S 0) | (go_at_call 159; refine (CA3 _ _ _ (by unfold Ints; rw [LS2.out]; exact (Sees.row S qAt)) (by unfold Ints; rw [LM3.out]; exact (Sees.row S qAt))).mono ?_; rintro e w ⟨u, rfl, T0⟩; have hX := qcl HL S T0; clear F S HL T0; obtain ⟨L, HL, S, F⟩ := hX; obtain ⟨A', cap', rfl, hcap', hmax'⟩ := qSl HL S 0)); (refine qKo hK ?_; clear hK K)))
  refine tree_fin ?_
  go_wp2
  refine ret4 rfl (resCell S HL 2 rfl rfl (by kernel_rfl)) (resCell S HL 4 rfl rfl (by kernel_rfl)) (resCell S HL 3 rfl rfl (by kernel_rfl)) (show _ = _ from rfl) rfl ?_
  exact ⟨_, _, _, _, rfl, (by rw [HL.out] at S; exact S.sel (by exact qSel))⟩
end
end Go.Proofs.YtjgfjfjboimgdaaGreat
