/- PsI -/
import Derived.Test.YtjgfjfjboimgdaaGreatY15
namespace Go.Proofs.YtjgfjfjboimgdaaGreat
set_option linter.unusedSimpArgs false
set_option linter.unusedVariables false
set_option linter.unusedSectionVars false
open Go Go.RowKit
set_option maxHeartbeats 8000000
set_option maxRecDepth 20000
section
attribute [local irreducible] wpList Oper.wp Calls
section
variable {P : Program} {w0 w : World} {a : Act} {L : List Ent} {o : Oper} {K : Act → World → Prop} {Q : Exit → Act → World → Prop}
theorem wp_litV (S : St w0 w L) (t : TypeId) (len : Nat) (parts : Array (Nat × Operand)) (ho : o.op = .buildSlice t len parts)
    (e : TypeId) (ht : P.underlying t = some (.slice e)) {z : Value} {bytes : Nat} (hi : (P.info? e).map (fun i => (i.zero, i.size, i.bytes)) = some (some z, 1, bytes))
    (hp : (parts.map fun (i, x) => (i, a.eval x)).toList = (((parts.map fun x => a.eval x.2).toList).zipIdx 0).map fun x => (x.2, x.1)) (h1 : ((parts.map fun x => a.eval x.2).toList).all (·.oneCell') = true) (hlen : len = parts.size) (hpos : Nat.blt 0 len = true) (hsmall : Nat.ble len 1000 = true)
    (h : ∀ g w' M, M = .box g e (parts.map fun x => a.eval x.2).toList :: L → St w0 w' M → K (a.put o.dst (.slice (some ⟨g, 0, none⟩) len len)) w') : o.wp P a w K Q := by
  obtain ⟨i, hi0, hz0, hz1, hz2⟩ := info_parts hi
  have h0 : 0 < len := by simpa using hpos
  have h2 : len ≤ 1000 := by simpa using hsmall
  refine Go.wp_buildSlice t e len parts ho (parts.map fun x => a.eval x.2).toList.toArray i z ht hi0 hz0 (by rw [hz1]; omega) (by rw [hz1]; omega) ?_ (h _ _ _ rfl (S.new e _))
  rw [hp, hz1]
  exact Great.fill_flat _ _ (fun v hv => by
    have := List.all_eq_true.1 h1 v hv
    cases v <;> first | rfl | cases this) (by simp [hlen])
end
theorem infoInts : (Tryz.prog.info? 23).map (fun i => (i.zero, i.size, i.bytes)) = some (some (.slice none 0 0), 1, 24) := by kernel_rfl
def joinTo (xs ys : List Int) : Nat → List Int
  | 0 => []
  | 1 => xs
  | _ => xs ++ ys
theorem C_joined2 (b : Nat) (xs ys : List Int) (u v : Value) (w0 : World) (hb : b < w0.heap.size) (h0 : w0.cell? ⟨b, 0, none⟩ = some u) (h1 : w0.cell? ⟨b, 1, none⟩ = some v) (hu : Ints w0 u xs) (hv : Ints w0 v ys) (lx : xs.length ≤ 100000) (ly : ys.length ≤ 100000) :
    Calls Tryz.prog 143 #[.slice (some ⟨b, 0, none⟩) 2 2] w0 fun e w => ∃ o, e = .returned o ∧ St w0 w [.row 3 1 o (xs.length + ys.length) (ints (xs ++ ys))] := by
  have HU := Lib.hid hu
  have HV := Lib.hid hv
  obtain ⟨_, A1, k1, rfl, hk1, hm1, _⟩ := hu
  obtain ⟨_, A2, k2, rfl, hk2, hm2, _⟩ := hv
  have H0 := Lib.hid h0
  have H1 := Lib.hid h1
  clear h0 h1
  obtain ⟨nx, hnx⟩ : ∃ n, xs.length = n := ⟨_, rfl⟩
  obtain ⟨ny, hny⟩ : ∃ n, ys.length = n := ⟨_, rfl⟩
  have HNX := Lib.hid hnx
  have HNY := Lib.hid hny
  unfold Ints at HU HV
  rw [hnx] at HU H0 hk1 lx
  rw [hny] at HV H1 hk2 ly
  rw [hnx, hny]
  clear hnx hny
  obtain ⟨L, HL, S⟩ := st_start w0; have F : True := trivial
  go_enter Tryz.func143, Tryz.ntmps143
  go_upto_region 2 with fail
  rw [HL.out] at S
  replace S := S.nilRow 3 1
  clear HL F
  obtain ⟨L, hM, T⟩ := st_name S; clear S; have S := T; clear T; have HL := Lib.hid hM; clear hM; have F := qFc HL S
  go_wp2
  go_loopw [3, 8] (fun o i wr => ∃ (q : Nat) (L : List Ent), q ≤ 2 ∧ i = .int .i64 q ∧ Hid (L = [.row 3 1 o (joinTo xs ys q).length (ints (joinTo xs ys q))]) ∧ St w0 wr L) (fun _ i _ => 2 - (intOf i).toNat)
  case atStart => exact ⟨0, L, Nat.zero_le _, rfl, HL, S⟩
  case round =>
    clear F HL S
    obtain ⟨q, L, hq, rfl, HL, S⟩ := hrel
    have F : True := trivial
    by_cases hlt : q < 2
    · have c0 := (S.below.cell (p := ⟨b, 0, none⟩) hb).trans H0.out
      have c1 := (S.below.cell (p := ⟨b, 1, none⟩) hb).trans H1.out
      rcases Nat.eq_zero_or_pos q with rfl | hq0
      · replace HL : Hid (L = [.row 3 1 _ 0 (ints [])]) := HL
        go_wp2_with (first | (refine wpList_append_see rfl S _ _ _ rfl _ 3 _ 1 8 Tryz.underlying23 infoInt rfl (by omega) _ _ _ rfl qAt _ _ _ rfl (by exact HU.out.at_ S) (ints_one _) (by simp only [maxLen]; omega) (by omega) ?_; clear F S; intro u' w L hM S; replace HL := qNm HL hM; clear hM; have F := qFc HL S))
        go_roundw
        case rel => exact ⟨1, L, by omega, by go_num, Lib.hid (by rw [HL.out]; show _ = [Ent.row _ _ _ xs.length _]; rw [HNX.out]; rfl), S⟩
        case measure => simp [intOf]
      · obtain rfl : q = 1 := by omega
        replace HL : Hid (L = [.row 3 1 _ xs.length (ints xs)]) := HL
        rw [HNX.out] at HL
        go_wp2_with (first | (refine wpList_append_see rfl S _ _ _ rfl _ 3 _ 1 8 Tryz.underlying23 infoInt rfl (by omega) _ _ _ rfl qAt _ _ _ rfl (by exact HV.out.at_ S) (ints_one _) (by simp only [maxLen]; omega) (by omega) ?_; clear F S; intro u' w L hM S; replace HL := qNm HL hM; clear hM; have F := qFc HL S))
        go_roundw
        case rel => exact ⟨2, L, by omega, by go_num, Lib.hid (by rw [HL.out]; show _ = [Ent.row _ _ _ (xs ++ ys).length (ints (xs ++ ys))]; rw [List.length_append, ints_append, HNX.out, HNY.out]), S⟩
        case measure => simp [intOf]
    · obtain rfl : q = 2 := by omega
      go_wp2
      go_ret
      refine ⟨_, rfl, ?_⟩
      rw [HL.out] at S
      have T : St w0 wr [.row 3 1 _ (xs ++ ys).length (ints (xs ++ ys))] := S
      rw [List.length_append, HNX.out, HNY.out] at T
      exact T
theorem C_impl_Product_good (z : Prd) (u1 u2 u3 u4 : Value) (w0 : World) (hs : seedOk z.s = true) (r1 : 1 ≤ z.R) (r2 : z.R ≤ 5) (k1 : 1 ≤ z.K) (k2 : z.K ≤ 5) (d1 : 1 ≤ z.D) (d2 : z.D ≤ 5)
    (lxa : z.xa.length = z.R * z.K) (lxb : z.xb.length = z.R * z.K) (lya : z.ya.length = z.K * z.D) (lyb : z.yb.length = z.K * z.D) (axa : z.xa.all rv = true) (axb : z.xb.all rv = true) (aya : z.ya.all rv = true) (ayb : z.yb.all rv = true)
    (h1 : Ints w0 u1 z.xa) (h2 : Ints w0 u2 z.xb) (h3 : Ints w0 u3 z.ya) (h4 : Ints w0 u4 z.yb) :
    Calls Tryz.prog 100 #[.agg #[.int .i64 z.R, .int .i64 z.K, u1, .int .i64 z.R, .int .i64 z.K, u2], .agg #[.int .i64 z.K, .int .i64 z.D, u3, .int .i64 z.K, .int .i64 z.D, u4], .int .i64 z.s] w0 (MakesScl w0 ⟨⟨⟨z.R, z.D, z.fir⟩, ⟨z.R, z.D, z.sec⟩⟩, z.d ++ z.e, z.s5⟩) := by
  have la1 : z.a1.length = z.R * z.K := rndTo_length _ _
  have la2 : z.a2.length = z.R * z.K := rndTo_length _ _
  have lb1 : z.b1.length = z.K * z.D := rndTo_length _ _
  have lb2 : z.b2.length = z.K * z.D := rndTo_length _ _
  have lc1 : z.c1.length = z.R * z.D := rndTo_length _ _
  have lc2 : z.c2.length = z.R * z.D := tab_length _ _
  have ld : z.d.length = z.R * z.K := tab_length _ _
  have le : z.e.length = z.K * z.D := tab_length _ _
  have lf : z.fir.length = z.R * z.D := z.add_len _ _
  have lsc : z.sec.length = z.R * z.D := z.add_len _ _
  have CK := fun w => C_impl_MakeMT z w hs r1 r2 k1 k2 d1 d2
  have CM := fun t1 t2 t3 t4 t5 t6 w p1 p2 p3 p4 q1 q2 q3 q4 q5 q6 => C_impl_MulM z u1 u2 u3 u4 t1 t2 t3 t4 t5 t6 w hs r1 r2 k1 k2 d1 d2 lxa lxb lya lyb axa axb aya ayb p1 p2 p3 p4 q1 q2 q3 q4 q5 q6
  have CV := fun w => C_seedValid z.s w
  rw [hs] at CV
  have HLX := Lib.hid (like_of r1 r2 k1 k2 lxa lxb axa axb)
  have HLY := Lib.hid (like_of k1 k2 d1 d2 lya lyb aya ayb)
  have b1 : z.R * z.K ≤ 25 := side_le r2 k2
  have b2 : z.K * z.D ≤ 25 := side_le k2 d2
  unfold MakesMT at CK
  unfold MakesMulM at CM
  unfold MakesScl
  dsimp only
  rw [List.length_append, lf, lsc, ld, le]
  have LA1 := Lib.hid la1
  have LA2 := Lib.hid la2
  have LB1 := Lib.hid lb1
  have LB2 := Lib.hid lb2
  have LC1 := Lib.hid lc1
  have LC2 := Lib.hid lc2
  have LD := Lib.hid ld
  have LE := Lib.hid le
  have HX1 := Lib.hid h1
  have HX2 := Lib.hid h2
  have HX3 := Lib.hid h3
  have HX4 := Lib.hid h4
  clear hs r1 r2 k1 k2 d1 d2 lxa lxb lya lyb axa axb aya ayb h1 h2 h3 h4 la1 la2 lb1 lb2 lc1 lc2 ld le lf lsc
  generalize z.fir = yf at *
  generalize z.sec = ys at *
  generalize z.R * z.K = NA at *
  generalize z.K * z.D = NB at *
  generalize z.R * z.D = NC at *
  generalize z.d = yd at *
  generalize z.e = ye at *
  generalize z.c2 = yc2 at *
  generalize z.c1 = yc1 at *
  generalize z.b2 = yb2 at *
  generalize z.b1 = yb1 at *
  generalize z.a2 = ya2 at *
  generalize z.a1 = ya1 at *
  generalize z.xa = xa at *
  generalize z.xb = xb at *
  generalize z.ya = ya at *
  generalize z.yb = yb at *
  generalize z.s5 = s5 at *
  generalize z.s = s0 at *
  generalize z.R = R at *
  generalize z.K = K at *
  generalize z.D = D at *
  have CJ := fun b u v w hb h0 h1 hu hv => C_joined2 b yd ye u v w hb h0 h1 hu hv (by rw [LD.out]; omega) (by rw [LE.out]; omega)
  rw [LD.out, LE.out] at CJ
  obtain ⟨L, HL, S⟩ := st_start w0; have F : True := trivial
  go_enter Tryz.func100, Tryz.ntmps100
  go_upto_region 1 with (first | (refine qbd 3 HL S ?_; clear F S HL; intro gx w L HL S F) | (refine qbd 4 HL S ?_; clear F S HL; intro gy w L HL S F) | (refine qal HL S zSMx ?_; clear F S HL; intro g6 w L HL S F))
  (rw [HL.out] at S; have T := (S.toObj (p := 0) rfl); clear S HL F; have S := T; clear T; (try simp only [List.set_cons_zero, List.set_cons_succ] at S); obtain ⟨L, hM, T⟩ := st_name S; clear S; have S := T; clear T; have HL := Lib.hid hM; clear hM; have F := qFc HL S)
  go_upto_region 3 with (first | refine qLb6 S ?_ | (go_at_call 52; refine qPu (CV _) ?_) | (go_at_call 72; refine qGr S (C_impl_SharedMatrixValid _ _ _ _ _ _ _ _ _ _ (by first | exact HX1.out.at_ S | exact HX3.out.at_ S) (by first | exact HX2.out.at_ S | exact HX4.out.at_ S) (by first | exact HLX.out | exact HLY.out)) ?_; clear S; intro w S))
  clear CV
  go_upto_region 4 with (first | (go_at_call 141; refine (CK _).mono ?_; rintro e w ⟨t1, t2, t3, t4, t5, t6, rfl, T0⟩; have hX := qcl HL S T0; clear F S HL T0; obtain ⟨L, HL, S, F⟩ := hX; obtain ⟨A', cap', rfl, hcap', hmax'⟩ := qSl HL S 0; obtain ⟨A', cap', rfl, hcap', hmax'⟩ := qSl HL S 1; obtain ⟨A', cap', rfl, hcap', hmax'⟩ := qSl HL S 2; obtain ⟨A', cap', rfl, hcap', hmax'⟩ := qSl HL S 3; obtain ⟨A', cap', rfl, hcap', hmax'⟩ := qSl HL S 4; obtain ⟨A', cap', rfl, hcap', hmax'⟩ := qSl HL S 5) | (refine qal HL S zMTri ?_; clear F S HL; intro g9 w L HL S F) | (refine qst HL S 0 ?_; clear F S HL; intro w L HL S F))
  clear CK
  (rw [HL.out] at S; have T := (((S.toObj (p := 0) rfl).toObj (p := 8) rfl).toObj (p := 9) rfl); clear S HL F; have S := T; clear T; (try simp only [List.set_cons_zero, List.set_cons_succ] at S); obtain ⟨L, hM, T⟩ := st_name S; clear S; have S := T; clear T; have HL := Lib.hid hM; clear hM; have F := qFc HL S)
  go_upto_region 5 with (first | refine qLo6 S ?_ | refine qLo18 S ?_ | (go_at_call 142; refine (CM _ _ _ _ _ _ _ (HX1.out.at_ S) (HX2.out.at_ S) (HX3.out.at_ S) (HX4.out.at_ S) (by unfold Ints; rw [LA1.out]; exact (Sees.row S qAt)) (by unfold Ints; rw [LA2.out]; exact (Sees.row S qAt)) (by unfold Ints; rw [LB1.out]; exact (Sees.row S qAt)) (by unfold Ints; rw [LB2.out]; exact (Sees.row S qAt)) (by unfold Ints; rw [LC1.out]; exact (Sees.row S qAt)) (by unfold Ints; rw [LC2.out]; exact (Sees.row S qAt))).mono ?_; rintro e w ⟨p1, p2, p3, p4, rfl, T0⟩; have hX := qcl HL S T0; clear F S HL T0; obtain ⟨L, HL, S, F⟩ := hX; obtain ⟨A', cap', rfl, hcap', hmax'⟩ := qSl HL S 0; obtain ⟨A', cap', rfl, hcap', hmax'⟩ := qSl HL S 1; obtain ⟨A', cap', rfl, hcap', hmax'⟩ := qSl HL S 2; obtain ⟨A', cap', rfl, hcap', hmax'⟩ := qSl HL S 3) | (refine qal HL S zSMx ?_; clear F S HL; intro g11 w L HL S F) | (refine qal HL S zMx ?_; clear F S HL; intro g12 w L HL S F) | (refine qst HL S 0 ?_; clear F S HL; intro w L HL S F) | (refine qst HL S 1 ?_; clear F S HL; intro w L HL S F) | (refine qst HL S 2 ?_; clear F S HL; intro w L HL S F))
  clear CM
  (rw [HL.out] at S; have T := (S.toBox (p := 14) rfl); clear S HL F; have S := T; clear T; (try simp only [List.set_cons_zero, List.set_cons_succ] at S); obtain ⟨L, hM, T⟩ := st_name S; clear S; have S := T; clear T; have HL := Lib.hid hM; clear hM; have F := qFc HL S)
  rw [HL.out] at S
  have T := S.sel (M := .box g6 _ _ :: _) (Sel.cons 14 rfl (Sel.tail (.refl _)))
  clear S HL F
  have S := T
  clear T
  simp only [List.eraseIdx_cons_succ, List.eraseIdx_cons_zero] at S
  obtain ⟨L, hM, T⟩ := st_name S; clear S; have S := T; clear T; have HL := Lib.hid hM; clear hM; have F := qFc HL S
  have hT := congrArg (List.drop 1) HL.out; simp only [List.drop_succ_cons, List.drop_zero] at hT; obtain ⟨L1, hL1⟩ : ∃ M, M = L.drop 1 := ⟨_, rfl⟩; rw [← hL1] at hT; have HL0 := Lib.hid hT; have S1 := S.sub (List.drop_sublist 1 L); rw [← hL1] at S1; have F0 := qFc HL0 S1; clear S1 hL1 hT; refine wp_region_tree (S := fun w' => St w0 w' L1) (qcs 0 5 (.calm 7 (.act 5 (.act 6 (.act 8 (.calm 9 (.calm 10 .fin)) .stop) .stop) .stop))) (by kernel_rfl) (by kernel_rfl) (by kernel_rfl) (by intro c a d v w h; cases d <;> exact h) ?_; dsimp only [qcs, Nat.reduceAdd]; replace S := S.drew
  repeat (first | refine qTb6 ?_ | refine qCa ?_ | refine qAn ?_ | refine qSk ?_ | (refine tree_act rfl rfl ?_ tree_stop; intro K hK; (refine qsw HL S 2 ?_; clear F S HL; intro w L HL S F); (refine qKo hK ?_; clear hK K)) | (refine tree_act rfl rfl ?_ tree_stop; intro K hK; (refine wp_litV S _ _ _ rfl 23 Tryz.underlying191 infoInts (by simp [Act.eval]) (by simp [Act.eval, Value.oneCell']) rfl rfl rfl ?_; clear F S; intro gl w L hM S; replace HL := qNm HL hM; clear hM; have F := qFc HL S); (refine qKo hK ?_; clear hK K)) | (refine tree_act rfl rfl ?_ tree_stop; intro K hK; go_wp2_with (first | (go_at_call 143; refine (CJ _ _ _ _ (by exact (S.lt (atOf HL (p := 0) rfl).mem rfl).2) (by exact S.cell (p := 0) (atOf HL rfl) 0) (by exact S.cell (p := 0) (atOf HL rfl) 1) (by unfold Ints; rw [LD.out]; exact (Sees.row S qAt)) (by unfold Ints; rw [LE.out]; exact (Sees.row S qAt))).mono ?_; rintro e w ⟨u, rfl, T0⟩; have hX := qcl HL S T0; clear F S HL T0; obtain ⟨L, HL, S, F⟩ := hX; obtain ⟨A', cap', rfl, hcap', hmax'⟩ := qSl HL S 0)); (refine qKo hK ?_; clear hK K)))
  refine tree_fin ?_
  go_wp2
  refine ret3 rfl (resCell S HL 2 rfl rfl (by kernel_rfl)) (show _ = _ from rfl) (show _ = _ from rfl) rfl ?_
  exact ⟨_, _, _, rfl, (by rw [HL.out] at S; exact S.sel (by exact qSel))⟩
theorem C_impl_Product_bad (r c : Int) (xs : List Int) (r' c' : Int) (ys : List Int) (u v : Value) (rc cc : Int) (us : List Int) (rc' cc' : Int) (vs : List Int) (p q : Value) (seed : Int) (w0 : World)
    (hu : Ints w0 u xs) (hv : Ints w0 v ys) (hp : Ints w0 p us) (hq : Ints w0 q vs) (hok : prodOk ⟨⟨r, c, xs⟩, ⟨r', c', ys⟩⟩ ⟨⟨rc, cc, us⟩, ⟨rc', cc', vs⟩⟩ seed = false) :
    Calls Tryz.prog 100 #[.agg #[.int .i64 r, .int .i64 c, u, .int .i64 r', .int .i64 c', v], .agg #[.int .i64 rc, .int .i64 cc, p, .int .i64 rc', .int .i64 cc', q], .int .i64 seed] w0 (MakesScl w0 ⟨SMx.zero, [], 0⟩) := by
  unfold MakesScl
  have HU := Lib.hid hu
  have HV := Lib.hid hv
  have HP := Lib.hid hp
  have HQ := Lib.hid hq
  have CV := fun w => C_seedValid seed w
  have hok' : (((likeMx ⟨r, c, xs⟩ ⟨r', c', ys⟩ && likeMx ⟨rc, cc, us⟩ ⟨rc', cc', vs⟩) && decide (c = rc)) && seedOk seed) = false := hok
  clear hok hu hv hp hq
  cases h1 : likeMx ⟨r, c, xs⟩ ⟨r', c', ys⟩ with
  | false =>
    have H1 := Lib.hid h1
    clear hok' h1
    obtain ⟨L, HL, S⟩ := st_start w0; have F : True := trivial
    go_enter Tryz.func100, Tryz.ntmps100
    go_upto_region 1 with (first | (refine qbx HL S ?_; clear F S HL; intro g w L HL S F) | (refine qal HL S zSMx ?_; clear F S HL; intro g w L HL S F))
    go_upto_region 2 with (first | (go_at_call 72; refine qGr S (C_impl_SharedMatrixValid _ _ _ _ _ _ _ _ _ _ (by exact HU.out.at_ S) (by exact HV.out.at_ S) (by exact H1.out)) ?_; clear S; intro w S))
    go_wp2_with (first | (refine qst HL S 0 ?_; clear F S HL; intro w L HL S F))
    refine ret3 rfl (resCell S HL 0 rfl rfl (by kernel_rfl)) (show _ = _ from rfl) (show _ = _ from rfl) rfl ?_
    exact ⟨_, _, _, rfl, S.nilScl _⟩
  | true =>
  cases h2 : likeMx ⟨rc, cc, us⟩ ⟨rc', cc', vs⟩ with
  | false =>
    have H1 := Lib.hid h1
    have H2 := Lib.hid h2
    clear hok' h1 h2
    obtain ⟨L, HL, S⟩ := st_start w0; have F : True := trivial
    go_enter Tryz.func100, Tryz.ntmps100
    go_upto_region 1 with (first | (refine qbx HL S ?_; clear F S HL; intro g w L HL S F) | (refine qal HL S zSMx ?_; clear F S HL; intro g w L HL S F))
    go_upto_region 2 with (first | (go_at_call 72; refine qGr S (C_impl_SharedMatrixValid _ _ _ _ _ _ _ _ _ _ (by first | exact HU.out.at_ S | exact HP.out.at_ S) (by first | exact HV.out.at_ S | exact HQ.out.at_ S) (by first | exact H1.out | exact H2.out)) ?_; clear S; intro w S))
    go_wp2_with (first | (refine qst HL S 0 ?_; clear F S HL; intro w L HL S F))
    refine ret3 rfl (resCell S HL 0 rfl rfl (by kernel_rfl)) (show _ = _ from rfl) (show _ = _ from rfl) rfl ?_
    exact ⟨_, _, _, rfl, S.nilScl _⟩
  | true =>
  have H1 := Lib.hid h1
  have H2 := Lib.hid h2
  rw [h1, h2, Bool.true_and, Bool.true_and] at hok'
  clear h1 h2
  by_cases h3 : c = rc
  · subst h3
    have h4 : seedOk seed = false := by simpa using hok'
    rw [h4] at CV
    clear hok' h4
    obtain ⟨L, HL, S⟩ := st_start w0; have F : True := trivial
    go_enter Tryz.func100, Tryz.ntmps100
    go_upto_region 1 with (first | (refine qbx HL S ?_; clear F S HL; intro g w L HL S F) | (refine qal HL S zSMx ?_; clear F S HL; intro g w L HL S F))
    go_upto_region 2 with (first | (go_at_call 52; refine qPu (CV _) ?_) | (go_at_call 72; refine qGr S (C_impl_SharedMatrixValid _ _ _ _ _ _ _ _ _ _ (by first | exact HU.out.at_ S | exact HP.out.at_ S) (by first | exact HV.out.at_ S | exact HQ.out.at_ S) (by first | exact H1.out | exact H2.out)) ?_; clear S; intro w S))
    go_wp2_with (first | (refine qst HL S 0 ?_; clear F S HL; intro w L HL S F))
    refine ret3 rfl (resCell S HL 0 rfl rfl (by kernel_rfl)) (show _ = _ from rfl) (show _ = _ from rfl) rfl ?_
    exact ⟨_, _, _, rfl, S.nilScl _⟩
  · have hne : (c == rc) = false := by rw [beq_eq_false_iff_ne]; exact h3
    clear hok'
    obtain ⟨L, HL, S⟩ := st_start w0; have F : True := trivial
    go_enter Tryz.func100, Tryz.ntmps100
    go_upto_region 1 with (first | (refine qbx HL S ?_; clear F S HL; intro g w L HL S F) | (refine qal HL S zSMx ?_; clear F S HL; intro g w L HL S F))
    go_upto_region 2 with (first | (go_at_call 72; refine qGr S (C_impl_SharedMatrixValid _ _ _ _ _ _ _ _ _ _ (by first | exact HU.out.at_ S | exact HP.out.at_ S) (by first | exact HV.out.at_ S | exact HQ.out.at_ S) (by first | exact H1.out | exact H2.out)) ?_; clear S; intro w S))
    go_wp2_with (first | (refine qst HL S 0 ?_; clear F S HL; intro w L HL S F))
    refine ret3 rfl (resCell S HL 0 rfl rfl (by kernel_rfl)) (show _ = _ from rfl) (show _ = _ from rfl) rfl ?_
    exact ⟨_, _, _, rfl, S.nilScl _⟩
theorem C_impl_ProductShared (r c : Int) (xs : List Int) (r' c' : Int) (ys : List Int) (u v : Value) (rc cc : Int) (us : List Int) (rc' cc' : Int) (vs : List Int) (p q : Value) (seed : Int) (z : Scd) (w0 : World)
    (hu : Ints w0 u xs) (hv : Ints w0 v ys) (hp : Ints w0 p us) (hq : Ints w0 q vs) (hz : prodS ⟨⟨r, c, xs⟩, ⟨r', c', ys⟩⟩ ⟨⟨rc, cc, us⟩, ⟨rc', cc', vs⟩⟩ seed = z) :
    Calls Tryz.prog 100 #[.agg #[.int .i64 r, .int .i64 c, u, .int .i64 r', .int .i64 c', v], .agg #[.int .i64 rc, .int .i64 cc, p, .int .i64 rc', .int .i64 cc', q], .int .i64 seed] w0 (MakesScl w0 z) := by
  subst hz
  cases hok : prodOk ⟨⟨r, c, xs⟩, ⟨r', c', ys⟩⟩ ⟨⟨rc, cc, us⟩, ⟨rc', cc', vs⟩⟩ seed with
  | false =>
    rw [prodS_not hok]
    exact C_impl_Product_bad r c xs r' c' ys u v rc cc us rc' cc' vs p q seed w0 hu hv hp hq hok
  | true =>
    have h' := hok
    simp only [prodOk, Bool.and_eq_true, decide_eq_true_eq] at h'
    obtain ⟨⟨⟨hx, hy⟩, hc⟩, hs⟩ := h'
    obtain ⟨R, K, N, rfl, rfl, rfl, rfl, r1, r2, c1, c2, hRC, hN, hN', hN2, a1, a2⟩ := like_parts hx
    obtain ⟨K', D, M, e1, rfl, rfl, rfl, p1, p2, q1, q2, hPQ, hM, hM', hM2, a3, a4⟩ := like_parts hy
    subst e1
    obtain rfl : K' = K := by omega
    unfold prodS
    rw [if_pos hok]
    exact C_impl_Product_good ⟨xs, ys, us, vs, R, K', D, seed⟩ u v p q w0 hs r1 r2 c1 c2 q1 q2 (hN.trans hRC.symm) (hN'.trans hRC.symm) (hM.trans hPQ.symm) (hM'.trans hPQ.symm) a1 a2 a3 a4 hu hv hp hq
end
end Go.Proofs.YtjgfjfjboimgdaaGreat
