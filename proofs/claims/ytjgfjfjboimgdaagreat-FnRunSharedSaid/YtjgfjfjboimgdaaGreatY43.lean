/- RsI -/
import Derived.Test.YtjgfjfjboimgdaaGreatY40
import Derived.Test.YtjgfjfjboimgdaaGreatY41
import Derived.Test.YtjgfjfjboimgdaaGreatY42
namespace Go.Proofs.YtjgfjfjboimgdaaGreat
set_option linter.unusedSimpArgs false
set_option linter.unusedVariables false
set_option linter.unusedSectionVars false
open Go Go.RowKit
set_option maxHeartbeats 8000000
set_option maxRecDepth 20000
section
attribute [local irreducible] wpList Oper.wp Calls
theorem C_each_copy (m : SMx) (u v : Value) (w0 : World) (h : Ints w0 u m.a.xs) (h' : Ints w0 v m.b.xs) (hm : m.ok = true) :
    Calls Tryz.prog 56 #[.agg #[.int .i64 (m).a.r, .int .i64 (m).a.c, u, .int .i64 (m).b.r, .int .i64 (m).b.c, v], .func (.func 74) #[] #[]] w0 (MakesSMx w0 m.a.r m.a.c m.a.xs m.b.r m.b.c m.b.xs) := by
  obtain ⟨R, C, N, xs, ys, rfl, r1, r2, c1, c2, hRC, hN, hN', hN2, a1, a2⟩ := smx_nat hm
  dsimp only at h h' ⊢
  have p0 : 0 < N := by rw [← hRC]; exact Nat.mul_pos (by omega) (by omega)
  have CA := fun u w h => C_copyMatrix R C xs.length xs u w h (by omega) (by omega)
  have CB := fun u w h => C_copyMatrix R C ys.length ys u w h (by omega) (by omega)
  unfold MakesSMx
  have H := Lib.hid h
  have H' := Lib.hid h'
  obtain ⟨_, A, cap, rfl, hcap, hmax, _⟩ := h
  obtain ⟨_, A2, cap2, rfl, hcap2, hmax2, _⟩ := h'
  clear hm hRC hN hN' a1 a2 p0
  obtain ⟨L, HL, S⟩ := st_start w0; have F : True := trivial
  go_enter Tryz.func56, Tryz.ntmps56
  go_wp2_with (first | (refine qbx HL S ?_; clear F S HL; intro g w L HL S F) | (refine qal HL S zSMx ?_; clear F S HL; intro g w L HL S F) | (refine qst HL S 0 ?_; clear F S HL; intro w L HL S F) | (refine qst HL S 1 ?_; clear F S HL; intro w L HL S F) | (refine qst HL S 2 ?_; clear F S HL; intro w L HL S F) | (refine qst HL S 3 ?_; clear F S HL; intro w L HL S F)  )
  have HL0 := HL; have F0 := F; refine wp_region_tree (S := fun w' => St w0 w' L) (qcs 0 3 (qcs 4 3 (.act 3 (.act 7 (.calm 8 (.act 9 .fin .stop)) .stop) .stop))) (by kernel_rfl) (by kernel_rfl) (by kernel_rfl) (by intro c a d v w h; cases d <;> exact h) ?_; dsimp only [qcs, Nat.reduceAdd]; replace S := S.drew
  repeat (first | refine qCa ?_ | refine qAn ?_ | refine qSk ?_ | (refine tree_act rfl rfl ?_ tree_stop; intro K hK; (refine qsw HL S 2 ?_; clear F S HL; intro w L HL S F); (refine qKo hK ?_; clear hK K)) | (refine tree_act rfl rfl ?_ tree_stop; intro K hK; go_wp2_with (first | (go_at_call 74; refine (CA _ _ (H.out.at_ S)).mono ?_; rintro e w ⟨u, rfl, T0⟩; have hX := qcl HL S T0; clear F S HL T0; obtain ⟨L, HL, S, F⟩ := hX; obtain ⟨A', cap', rfl, hcap', hmax'⟩ := qSl HL S 0) | (go_at_call 74; refine (CB _ _ (H'.out.at_ S)).mono ?_; rintro e w ⟨u, rfl, T0⟩; have hX := qcl HL S T0; clear F S HL T0; obtain ⟨L, HL, S, F⟩ := hX; obtain ⟨A', cap', rfl, hcap', hmax'⟩ := qSl HL S 0)); (refine qKo hK ?_; clear hK K)))
  refine tree_fin ?_
  go_wp2
  ((try simp only [Exit.inBlock, Exit.then]); refine ret1 rfl (resCell S HL 2 rfl rfl (by kernel_rfl)) rfl ?_)
  exact ⟨_, _, rfl, (by rw [HL.out] at S; exact S.sub (by repeat (first | exact .refl _ | exact List.nil_sublist _ | apply List.Sublist.cons_cons | apply List.Sublist.cons)))⟩
theorem C_impl_Run_good (ls : List SLy) (x : SMx) (s : Int) (t u v : Value) (z : Scd) (w0 : World) (ht : SeesSLs w0 t ls) (hsm : ∀ l ∈ ls, l.ws.length ≤ 1048576) (hu : Ints w0 u x.a.xs) (hv : Ints w0 v x.b.xs) (hok : runOk ls x s = true) (hz : runFromS ls x s = z) :
    Calls Tryz.prog 31 #[t, .agg #[.int .i64 (x).a.r, .int .i64 (x).a.c, u, .int .i64 (x).b.r, .int .i64 (x).b.c, v], .int .i64 s] w0 (MakesScl w0 z) := by
  unfold MakesScl
  obtain ⟨hx, hs, hjr, h4, ⟨p1, p2⟩, hp⟩ := runOk_parts hok
  obtain ⟨_, _, _, hsides⟩ := sides_some hp
  have CN := fun v w h => C_impl_NetSides v (ls.map joinLy) x.a.r x.a.c (some (p1, p2)) w h hp
  unfold sidesRes at CN
  dsimp only at CN
  have CJ := fun v w h => RB.C_impl_JoinNet v ls true (ls.map joinLy) w h hsm hjr
  have CE := fun w h h' => C_each_copy x u v w h h' hx
  unfold MakesSMx at CE
  have CV := fun w => C_seedValid s w
  rw [hs] at CV
  have HXO := Lib.hid hx
  have HU := Lib.hid hu
  have HV := Lib.hid hv
  have HT := Lib.hid ht
  have HS := Lib.hid hs
  have HD := Lib.hid hsides
  have HZ := Lib.hid hz
  obtain ⟨A, cap, rfl, hcap, hmax, hA⟩ := ht
  obtain ⟨n, hn⟩ : ∃ n, ls.length = n := ⟨_, rfl⟩
  rw [hn] at hcap hA h4 ⊢
  (try rw [hn] at HT)
  have HN := Lib.hid hn
  have HA := Lib.hid hA
  unfold maxLen at hmax
  clear hz hu hv hx hs hsm hok hjr hp hsides hA hn
  obtain ⟨L, HL, S⟩ := st_start w0; have F : True := trivial
  go_enter Tryz.func31, Tryz.ntmps31
  go_upto_region 1 with (first | (refine qbd 4 HL S ?_; clear F S HL; intro gx w L HL S F) | (refine qal HL S zSMx ?_; clear F S HL; intro g6 w L HL S F))
  go_upto_region 2 with (first | (go_at_call 37; refine (CJ _ _ (HT.out.at_ S)).mono ?_; rintro e w ⟨ju, js, rfl, hjs, T0⟩; have HJS := Lib.hid hjs; obtain ⟨L, hM, T⟩ := st_name ((S.call T0).perm List.perm_append_comm); clear T0 hjs; clear F S; replace HL := qNm HL hM; clear hM; have S := T; clear T; have F := qFc HL S))
  clear CJ
  go_upto_region 4 with (first | refine qLb6 S ?_ | (go_at_call 52; refine qPu (CV _) ?_) | (go_at_call 72; refine qGr S (C_impl_SharedMatrixValid _ _ _ _ _ _ _ _ _ _ (by exact HU.out.at_ S) (by exact HV.out.at_ S) (by exact HXO.out)) ?_; clear S; intro w S))
  clear CV
  go_upto_region 5 with (first | (go_at_call 73; refine qGr S (CN _ _ (HJS.out ▸ sees_ls S (by rw [HL.out]; intro e he; simp [he]))) ?_; clear S; intro w S))
  clear CN
  rw [HL.out] at S
  have T := S.sub (List.sublist_append_left [_, _] _)
  clear S HL F
  have S := T
  clear T
  obtain ⟨L, hM, T⟩ := st_name S; clear S; have S := T; clear T; have HL := Lib.hid hM; clear hM; have F := qFc HL S
  go_upto_region 8 with (first | (refine qal HL S zStp ?_; clear F S HL; intro gs w L HL S F) | (refine qst HL S 0 ?_; clear F S HL; intro w L HL S F))
  go_upto_region 9 with (first | refine qLb6 S ?_ | (go_at_call 56; refine (CE _ (HU.out.at_ S) (HV.out.at_ S)).mono ?_; rintro e w ⟨u, v, rfl, T0⟩; have hX := qcl HL S T0; clear F S HL T0; obtain ⟨L, HL, S, F⟩ := hX; obtain ⟨A', cap', rfl, hcap', hmax'⟩ := qSl HL S 0; obtain ⟨A', cap', rfl, hcap', hmax'⟩ := qSl HL S 1) | (refine qal HL S zSMx ?_; clear F S HL; intro gm w L HL S F) | (refine qst HL S 0 ?_; clear F S HL; intro w L HL S F))
  clear CE
  rw [HL.out] at S
  replace S := (S.nilRow 3 1).sel (M := [.box gs _ _, _, .box gm _ _, _, _, .box g6 _ _]) (Sel.cons 4 rfl (Sel.cons 0 rfl (Sel.cons 0 rfl (Sel.cons 0 rfl (Sel.cons 0 rfl (Sel.cons 0 rfl Sel.nil))))))
  clear HL F
  obtain ⟨L, hM, T⟩ := st_name S; clear S; have S := T; clear T; have HL := Lib.hid hM; clear hM; have F := qFc HL S
  go_wp2
  go_loopw [57] (fun i wr => ∃ (j : Nat) (y : SMx) (O : List Int) (o : Value) (Ya Yb : Option Addr) (ca cb : Nat) (sv : Int) (L : List Ent), j ≤ n ∧ i = .int .i64 j ∧ Hid (y.ok = true ∧ seedOk sv = true ∧ sidesFrom ((ls.drop j).map joinLy) y.a.r y.a.c = some (p1, p2) ∧ z = ⟨(runFromS (ls.drop j) y sv).m, O ++ (runFromS (ls.drop j) y sv).os, (runFromS (ls.drop j) y sv).last⟩ ∧ O.length ≤ j * 600) ∧ Hid (L = .box gs 85 [.int .i64 sv, o] :: .row 3 1 o O.length (ints O) :: .box gm 32 [.int .i64 y.a.r, .int .i64 y.a.c, .slice Ya y.a.xs.length ca, .int .i64 y.b.r, .int .i64 y.b.c, .slice Yb y.b.xs.length cb] :: .row 3 1 (.slice Yb y.b.xs.length cb) y.b.xs.length (ints y.b.xs) :: .row 3 1 (.slice Ya y.a.xs.length ca) y.a.xs.length (ints y.a.xs) :: .box g6 32 [.int .i64 0, .int .i64 0, .slice none 0 0, .int .i64 0, .int .i64 0, .slice none 0 0] :: []) ∧ St w0 wr L) (fun i _ => n - (intOf i).toNat)
  case atStart => exact ⟨0, x, [], _, _, _, _, _, s, _, Nat.zero_le _, rfl, Lib.hid ⟨HXO.out, HS.out, HD.out, by rw [← HZ.out]; rfl, Nat.zero_le _⟩, Lib.hid rfl, by rw [HL.out] at S; exact S⟩
  case round =>
    clear F HL S HS HZ HD HXO
    obtain ⟨j, y, O, o, Ya, Yb, ca, cb, sv, L, hj, rfl, HR, HL, S⟩ := hrel
    have F := factsAll HL S
    simp only [factsOf, cellsFrom, and_true, true_and, Nat.reduceAdd] at F
    obtain ⟨hok, hsv, hsd, hrun, hO⟩ := HR.out
    by_cases hlt : j < n
    · obtain ⟨bl, off, rfl, hbl, hcl⟩ := HA.out (by omega)
      obtain ⟨l, hl⟩ := some_at HN.out hlt
      obtain ⟨qu, k1, k2, hqs⟩ := hcl j l hl
      have K1 := Lib.hid k1
      have K2 := Lib.hid k2
      have f1 := fun w' (S' : St w0 w' L) => (S'.below.cell (p := ⟨bl, off + j * 2, none⟩) hbl).trans K1.out
      have f2 := fun w' (S' : St w0 w' L) => (S'.below.cell (p := ⟨bl, off + j * 2 + 1, none⟩) hbl).trans K2.out
      rw [drop_at hl] at hsd hrun
      rw [List.map_cons] at hsd
      obtain ⟨jx0, jx1, jx2, _⟩ := join_smx hok
      have hsi := Mx.ok_sides jx0
      rw [jx1, jx2] at hsi
      obtain ⟨a, d', hlok, hs, _, _, hrest⟩ := from_cons hsi.1 hsi.2 hsd
      have g := step_good hlok hok hsv hs
      obtain ⟨n1, n2, n3⟩ := runLy_next hlok jx0 (by rw [jx1, jx2]; exact hs)
      obtain ⟨s1, s2⟩ := g.sides
      rw [n2] at s1
      rw [n3] at s2
      have few := step_few l y sv
      simp only [runFromS] at hrun
      obtain ⟨y', hy'⟩ : ∃ r, stepS l y sv = r := ⟨_, rfl⟩
      rw [hy'] at g s1 s2 few hrun
      have HNX : Hid (y'.m.ok = true ∧ seedOk y'.last = true ∧ sidesFrom ((ls.drop (j + 1)).map joinLy) y'.m.a.r y'.m.a.c = some (p1, p2) ∧ z = ⟨(runFromS (ls.drop (j + 1)) y'.m y'.last).m, (O ++ y'.os) ++ (runFromS (ls.drop (j + 1)) y'.m y'.last).os, (runFromS (ls.drop (j + 1)) y'.m y'.last).last⟩ ∧ (O ++ y'.os).length ≤ (j + 1) * 600) := Lib.hid ⟨g.ok, g.seed, by rw [s1, s2]; exact hrest, by rw [List.append_assoc]; exact hrun, by rw [List.length_append]; omega⟩
      have hcase := step_cases hlok hok hsv hs
      have HOK := Lib.hid hok
      have HSV := Lib.hid hsv
      have HY := Lib.hid hy'
      have HQS := Lib.hid hqs
      have hO1 : O.length ≤ 1048576 * 600 := Nat.le_trans hO (Nat.mul_le_mul_right _ (by omega))
      have hO2 : O.length ≤ 2400 := Nat.le_trans hO (by omega)
      clear HR hsd hrun hsi hlok hs hrest n1 n2 n3 s1 s2 hok hsv hl g hO hO1 jx0 jx1 jx2 hy' hqs k1 k2 hcl
      rcases hcase with rfl | ⟨wm, bm, rfl, hw, hb, e1, e2, e3⟩ | ⟨am, bm, cm, rfl, hm⟩
      · obtain ⟨Ab, cb2, rfl, hcb2, hmb2, hB⟩ := HQS.out
        dsimp only [List.length_nil] at hcb2 hB f1 f2
        have hmap : mapS 2 y sv = y' := HY.out
        have C2 := fun L p q gs o w S hp hq hpq u v hu hv => C_lookO L p q gs 2 sv o O (O ++ y'.os) y u v y' w0 w S hp hq hpq (by omega) hu hv hmap rfl
        unfold StepsO at C2
        clear hmap HQS HY hB
        go_upto_region 12 with (first | (refine qal HL S zSLy ?_; clear F S HL; intro g17 w L HL S F) | (refine qst HL S 0 ?_; clear F S HL; intro w L HL S F))
        go_upto_region 16 with fail
        go_wp2_with (first | refine qLb6 S ?_ | (go_at_call 55; refine (C2 L _ _ _ _ _ S qAt qAt (by decide) _ _ (by first | exact .inr qIn) (by first | exact .inr qIn)).mono ?_; rintro e w ⟨o2, Au, At', cu, ct, rfl, T0⟩; obtain ⟨L, hM, T⟩ := st_name T0; clear T0; clear F S; replace HL := qNm HL hM; clear hM; have S := T; clear T; have F := qFc HL S) | (refine qst HL S 5 ?_; clear F S HL; intro w L HL S F))
        go_roundw
        case rel =>
          refine ⟨j + 1, y'.m, O ++ y'.os, o2, Au, At', cu, ct, y'.last, _, by omega, by go_num, HNX, Lib.hid rfl, ?_⟩
          rw [HL.out] at S
          rw [List.length_append]
          exact S.sel (by exact qQ6)
        case measure => simp [intOf]; omega
      · obtain ⟨Ab, cb2, rfl, hcb2, hmb2, hB⟩ := HQS.out
        dsimp only [List.length_cons, List.length_nil] at hcb2 hB
        obtain ⟨bl2, off2, rfl, hbl2, hc2⟩ := hB (by decide)
        obtain ⟨wu, wv, q0, q1, q2, q3, q4, q5, hwu, hwv⟩ := hc2 0 wm rfl
        obtain ⟨bu, bv, q6, q7, q8, q9, q10, q11, hbu, hbv⟩ := hc2 1 bm rfl
        simp only [Nat.zero_mul, Nat.add_zero, Nat.one_mul] at q0 q1 q2 q3 q4 q5 q6 q7 q8 q9 q10 q11
        have Q0 := Lib.hid q0
        have Q1 := Lib.hid q1
        have Q2 := Lib.hid q2
        have Q3 := Lib.hid q3
        have Q4 := Lib.hid q4
        have Q5 := Lib.hid q5
        have Q6 := Lib.hid q6
        have Q7 := Lib.hid q7
        have Q8 := Lib.hid q8
        have Q9 := Lib.hid q9
        have Q10 := Lib.hid q10
        have Q11 := Lib.hid q11
        have HWU := Lib.hid hwu
        have HWV := Lib.hid hwv
        have HBU := Lib.hid hbu
        have HBV := Lib.hid hbv
        have hden : denseS wm bm y sv = y' := HY.out
        have C1 := fun u1 u2 u3 u4 u5 u6 w h1 h2 h3 h4 h5 h6 => C_impl_SDense wm bm y sv y' u1 u2 u3 u4 u5 u6 w h1 h2 h3 h4 h5 h6 hw hb HOK.out HSV.out e1 e2 e3 hden
        unfold MakesScl at C1
        dsimp only [List.length_cons, List.length_nil, Nat.zero_add, Nat.reduceAdd] at f1 f2
        unfold maxLen at hmb2
        clear hden HQS HY q0 q1 q2 q3 q4 q5 q6 q7 q8 q9 q10 q11 hwu hwv hbu hbv hc2 hB hw hb e1 e2 e3
        go_upto_region 12 with (first | (refine qal HL S zSLy ?_; clear F S HL; intro g17 w L HL S F) | (refine qst HL S 0 ?_; clear F S HL; intro w L HL S F))
        go_upto_region 14 with fail
        rw [HL.out] at S
        have T := S.sel (M := .box gs _ _ :: .row 3 1 o _ _ :: _) (Sel.cons 1 rfl (Sel.cons 1 rfl (Sel.tail (.refl _))))
        clear S HL F
        have S := T
        clear T
        simp only [List.eraseIdx_cons_succ, List.eraseIdx_cons_zero] at S
        obtain ⟨L, hM, T⟩ := st_name S; clear S; have S := T; clear T; have HL := Lib.hid hM; clear hM; have F := qFc HL S
        have hT := congrArg (List.drop 2) HL.out; simp only [List.drop_succ_cons, List.drop_zero] at hT; obtain ⟨L1, hL1⟩ : ∃ M, M = L.drop 2 := ⟨_, rfl⟩; rw [← hL1] at hT; have HL0 := Lib.hid hT; have S1 := S.sub (List.drop_sublist 2 L); rw [← hL1] at S1; have F0 := qFc HL0 S1; clear S1 hL1 hT; refine wp_region_tree (S := fun w' => St w0 w' L1) (qcs 0 10 (.act 10 (.act 11 (.calm 12 (.calm 13 (.calm 14 (.act 15 (.act 16 .fin .stop) .stop)))) .stop) .stop)) (by kernel_rfl) (by kernel_rfl) (by kernel_rfl) (by intro c a d v w h; cases d <;> exact h) ?_; dsimp only [qcs, Nat.reduceAdd]; replace S := S.drew
        have e0 := fun w' (S' : St w0 w' L1) => (S'.below.cell (p := ⟨bl2, off2, none⟩) hbl2).trans Q0.out
        have e1 := fun w' (S' : St w0 w' L1) => (S'.below.cell (p := ⟨bl2, off2 + 1, none⟩) hbl2).trans Q1.out
        have e2 := fun w' (S' : St w0 w' L1) => (S'.below.cell (p := ⟨bl2, off2 + 2, none⟩) hbl2).trans Q2.out
        have e3 := fun w' (S' : St w0 w' L1) => (S'.below.cell (p := ⟨bl2, off2 + 3, none⟩) hbl2).trans Q3.out
        have e4 := fun w' (S' : St w0 w' L1) => (S'.below.cell (p := ⟨bl2, off2 + 4, none⟩) hbl2).trans Q4.out
        have e5 := fun w' (S' : St w0 w' L1) => (S'.below.cell (p := ⟨bl2, off2 + 5, none⟩) hbl2).trans Q5.out
        have e6 := fun w' (S' : St w0 w' L1) => (S'.below.cell (p := ⟨bl2, off2 + 6, none⟩) hbl2).trans Q6.out
        have e7 := fun w' (S' : St w0 w' L1) => (S'.below.cell (p := ⟨bl2, off2 + 6 + 1, none⟩) hbl2).trans Q7.out
        have e8 := fun w' (S' : St w0 w' L1) => (S'.below.cell (p := ⟨bl2, off2 + 6 + 2, none⟩) hbl2).trans Q8.out
        have e9 := fun w' (S' : St w0 w' L1) => (S'.below.cell (p := ⟨bl2, off2 + 6 + 3, none⟩) hbl2).trans Q9.out
        have e10 := fun w' (S' : St w0 w' L1) => (S'.below.cell (p := ⟨bl2, off2 + 6 + 4, none⟩) hbl2).trans Q10.out
        have e11 := fun w' (S' : St w0 w' L1) => (S'.below.cell (p := ⟨bl2, off2 + 6 + 5, none⟩) hbl2).trans Q11.out
        repeat (first | refine qTb6 ?_ | refine qCa ?_ | refine qAn ?_ | refine qSk ?_ | (refine tree_act rfl rfl ?_ tree_stop; intro K hK; (refine qsw HL S 6 ?_; clear F S HL; intro w L HL S F); (refine qKo hK ?_; clear hK K)) | (refine tree_act rfl rfl ?_ tree_stop; intro K hK; go_wp2_with (first | (go_at_call 76; refine (C1 _ _ _ _ _ _ _ (HWU.out.at_ S) (HWV.out.at_ S) (HBU.out.at_ S) (HBV.out.at_ S) (Sees.row S qAt) (Sees.row S qAt)).mono ?_; rintro e w ⟨u1, v1, o1, rfl, T0⟩; have hX := qcl HL S T0; clear F S HL T0; obtain ⟨L, HL, S, F⟩ := hX; obtain ⟨At', ct, rfl, hct, hmt⟩ := qSl HL S 1; obtain ⟨Au, cu, rfl, hcu, hmu⟩ := qSl HL S 2) | (go_at_call 75; refine (C_take L _ _ _ _ _ _ _ _ _ _ _ _ _ _ _ _ _ _ _ _ _ w0 _ S qAt qAt ⟨_, _, (by exact atOf HL (p := 0) rfl)⟩ (by decide) (by omega) (by omega)).mono ?_; rintro e w ⟨o2, rfl, T0⟩; obtain ⟨L, hM, T⟩ := st_name T0; clear T0; clear F S; replace HL := qNm HL hM; clear hM; have S := T; clear T; have F := qFc HL S)); (refine qKo hK ?_; clear hK K)))
        refine tree_fin ?_
        go_wp2
        go_roundw
        case rel =>
          refine ⟨j + 1, y'.m, O ++ y'.os, o2, Au, At', cu, ct, y'.last, _, by omega, by go_num, HNX, Lib.hid rfl, ?_⟩
          rw [HL.out] at S
          rw [List.length_append]
          exact S.sel (by exact qQ6)
        case measure => simp [intOf]; omega
      · have hqs := HQS.out
        obtain ⟨Ab, cb2, rfl, hcb2, hmb2, hB⟩ := hqs
        have hmix : mixR [am, bm, cm] y sv = y' := by rw [← HY.out]; obtain ⟨_, _, _, e0, _, _, _, _, _, _, _, _, _, _, _, e⟩ := mixOk_parts hm; simp only [List.cons.injEq, and_true] at e0; obtain ⟨rfl, rfl, rfl⟩ := e0; exact e
        have C1 := fun t u v w ht hu hv => C_impl_SharedMix [am, bm, cm] y sv t u v y' w ht hu hv hmix
        unfold MakesScl at C1
        dsimp only [List.length_cons, List.length_nil, Nat.zero_add, Nat.reduceAdd] at f1 f2 hcb2
        unfold maxLen at hmb2
        clear hmix hm HY hB
        go_upto_region 12 with (first | (refine qal HL S zSLy ?_; clear F S HL; intro g17 w L HL S F) | (refine qst HL S 0 ?_; clear F S HL; intro w L HL S F))
        go_upto_region 18 with fail
        go_wp2_with (first | refine qLb6 S ?_ | (go_at_call 14; refine (C1 _ _ _ _ (HQS.out.at_ S) (Sees.row S qAt) (Sees.row S qAt)).mono ?_; rintro e w ⟨u1, v1, o1, rfl, T0⟩; have hX := qcl HL S T0; clear F S HL T0; obtain ⟨L, HL, S, F⟩ := hX; obtain ⟨At', ct, rfl, hct, hmt⟩ := qSl HL S 1; obtain ⟨Au, cu, rfl, hcu, hmu⟩ := qSl HL S 2) | (go_at_call 75; refine (C_take L _ _ _ _ _ _ _ _ _ _ _ _ _ _ _ _ _ _ _ _ _ w0 _ S qAt qAt ⟨_, _, (by exact atOf HL (p := 0) rfl)⟩ (by decide) (by omega) (by omega)).mono ?_; rintro e w ⟨o2, rfl, T0⟩; obtain ⟨L, hM, T⟩ := st_name T0; clear T0; clear F S; replace HL := qNm HL hM; clear hM; have S := T; clear T; have F := qFc HL S) | (refine qst HL S 6 ?_; clear F S HL; intro w L HL S F))
        go_roundw
        case rel =>
          refine ⟨j + 1, y'.m, O ++ y'.os, o2, Au, At', cu, ct, y'.last, _, by omega, by go_num, HNX, Lib.hid rfl, ?_⟩
          rw [HL.out] at S
          rw [List.length_append]
          exact S.sel (by exact qQ6)
        case measure => simp [intOf]; omega
    · obtain rfl : j = n := by omega
      rw [List.drop_of_length_le (by rw [HN.out]; exact Nat.le_refl _)] at hrun
      simp only [runFromS, List.append_nil] at hrun
      subst hrun
      clear HR hsd hok hsv hO
      go_upto_region 20 with fail
      rw [HL.out] at S
      have T := S.sel (M := .box g6 _ _ :: _) (Sel.cons 5 rfl (Sel.tail (.refl _)))
      clear S HL F
      have S := T
      clear T
      simp only [List.eraseIdx_cons_succ, List.eraseIdx_cons_zero] at S
      obtain ⟨L, hM, T⟩ := st_name S; clear S; have S := T; clear T; have HL := Lib.hid hM; clear hM; have F := qFc HL S
      have hT := congrArg (List.drop 1) HL.out; simp only [List.drop_succ_cons, List.drop_zero] at hT; obtain ⟨L1, hL1⟩ : ∃ M, M = L.drop 1 := ⟨_, rfl⟩; rw [← hL1] at hT; have HL0 := Lib.hid hT; have S1 := S.sub (List.drop_sublist 1 L); rw [← hL1] at S1; have F0 := qFc HL0 S1; clear S1 hL1 hT; refine wp_region_tree (S := fun w' => St w0 w' L1) (qcs 0 5 (.act 5 (.calm 6 (.calm 7 .fin)) .stop)) (by kernel_rfl) (by kernel_rfl) (by kernel_rfl) (by intro c a d v w h; cases d <;> exact h) ?_; dsimp only [qcs, Nat.reduceAdd]; replace S := S.drew
      repeat (first | refine qTb6 ?_ | refine qCa ?_ | refine qAn ?_ | refine qSk ?_ | (refine tree_act rfl rfl ?_ tree_stop; intro K hK; (refine qsw HL S 0 ?_; clear F S HL; intro w L HL S F); (refine qKo hK ?_; clear hK K)) | (refine tree_act rfl rfl ?_ tree_stop; intro K hK; go_wp2_with (first | fail); (refine qKo hK ?_; clear hK K)))
      refine tree_fin ?_
      go_wp2
      refine ret3 rfl (resCell S HL 0 rfl rfl (by kernel_rfl)) (show _ = _ from rfl) (show _ = _ from rfl) rfl ?_
      exact ⟨_, _, _, rfl, (by rw [HL.out] at S; exact S.sel (by exact qSel))⟩
theorem C_impl_Run_bad (ls : List SLy) (x : SMx) (s : Int) (t u v : Value) (w0 : World) (ht : SeesSLs w0 t ls) (hsm : ∀ l ∈ ls, l.ws.length ≤ 1048576) (hu : Ints w0 u x.a.xs) (hv : Ints w0 v x.b.xs) (hok : runOk ls x s = false) :
    Calls Tryz.prog 31 #[t, .agg #[.int .i64 (x).a.r, .int .i64 (x).a.c, u, .int .i64 (x).b.r, .int .i64 (x).b.c, v], .int .i64 s] w0 (MakesScl w0 ⟨SMx.zero, [], 0⟩) := by
  unfold MakesScl
  unfold runOk at hok
  obtain ⟨⟨bj, jl⟩, hjr⟩ : ∃ p, joinRes ls = p := ⟨_, rfl⟩
  rw [hjr] at hok
  dsimp only at hok
  obtain ⟨zs, hzs⟩ : ∃ z, netSides jl x.a.r x.a.c = z := ⟨_, rfl⟩
  rw [hzs] at hok
  have CN := fun v w h => C_impl_NetSides v jl x.a.r x.a.c zs w h hzs
  have CJ := fun v w h => RB.C_impl_JoinNet v ls bj jl w h hsm hjr
  have CV := fun w => C_seedValid s w
  obtain ⟨bx, hbx⟩ : ∃ b, x.ok = b := ⟨_, rfl⟩
  obtain ⟨bs, hbs⟩ : ∃ b, seedOk s = b := ⟨_, rfl⟩
  rw [hbx, hbs] at hok
  rw [hbs] at CV
  have HXO := Lib.hid hbx
  have HU := Lib.hid hu
  have HV := Lib.hid hv
  have HT := Lib.hid ht
  obtain ⟨A, cap, rfl, _, _, _⟩ := ht
  clear hu hv hsm hjr hzs hbx hbs
  unfold sidesRes at CN
  cases bj with
  | false =>
    clear hok
    obtain ⟨L, HL, S⟩ := st_start w0; have F : True := trivial
    go_enter Tryz.func31, Tryz.ntmps31
    go_upto_region 1 with (first | (refine qbd 4 HL S ?_; clear F S HL; intro gx w L HL S F) | (refine qal HL S zSMx ?_; clear F S HL; intro g6 w L HL S F))
    go_upto_region 2 with (first | (go_at_call 37; refine (CJ _ _ (HT.out.at_ S)).mono ?_; rintro e w ⟨ju, js, rfl, hjs, T0⟩; have HJS := Lib.hid hjs; obtain ⟨L, hM, T⟩ := st_name ((S.call T0).perm List.perm_append_comm); clear T0 hjs; clear F S; replace HL := qNm HL hM; clear hM; have S := T; clear T; have F := qFc HL S))
    go_wp2_with (first | refine qLb6 S ?_ | (refine qst HL S 0 ?_; clear F S HL; intro w L HL S F) | (go_at_call 52; refine qPu (CV _) ?_) | (go_at_call 72; refine qGr S (C_impl_SharedMatrixValid _ _ _ _ _ _ _ _ _ _ (by exact HU.out.at_ S) (by exact HV.out.at_ S) (by exact HXO.out)) ?_; clear S; intro w S))
    refine ret3 rfl (resCell S HL 0 rfl rfl (by kernel_rfl)) (show _ = _ from rfl) (show _ = _ from rfl) rfl ?_
    exact ⟨_, _, _, rfl, S.nilScl _⟩
  | true =>
    cases bx with
    | false =>
      clear hok
      obtain ⟨L, HL, S⟩ := st_start w0; have F : True := trivial
      go_enter Tryz.func31, Tryz.ntmps31
      go_upto_region 1 with (first | (refine qbd 4 HL S ?_; clear F S HL; intro gx w L HL S F) | (refine qal HL S zSMx ?_; clear F S HL; intro g6 w L HL S F))
      go_upto_region 2 with (first | (go_at_call 37; refine (CJ _ _ (HT.out.at_ S)).mono ?_; rintro e w ⟨ju, js, rfl, hjs, T0⟩; have HJS := Lib.hid hjs; obtain ⟨L, hM, T⟩ := st_name ((S.call T0).perm List.perm_append_comm); clear T0 hjs; clear F S; replace HL := qNm HL hM; clear hM; have S := T; clear T; have F := qFc HL S))
      go_wp2_with (first | refine qLb6 S ?_ | (refine qst HL S 0 ?_; clear F S HL; intro w L HL S F) | (go_at_call 52; refine qPu (CV _) ?_) | (go_at_call 72; refine qGr S (C_impl_SharedMatrixValid _ _ _ _ _ _ _ _ _ _ (by exact HU.out.at_ S) (by exact HV.out.at_ S) (by exact HXO.out)) ?_; clear S; intro w S))
      refine ret3 rfl (resCell S HL 0 rfl rfl (by kernel_rfl)) (show _ = _ from rfl) (show _ = _ from rfl) rfl ?_
      exact ⟨_, _, _, rfl, S.nilScl _⟩
    | true =>
      cases bs with
      | false =>
        clear hok
        obtain ⟨L, HL, S⟩ := st_start w0; have F : True := trivial
        go_enter Tryz.func31, Tryz.ntmps31
        go_upto_region 1 with (first | (refine qbd 4 HL S ?_; clear F S HL; intro gx w L HL S F) | (refine qal HL S zSMx ?_; clear F S HL; intro g6 w L HL S F))
        go_upto_region 2 with (first | (go_at_call 37; refine (CJ _ _ (HT.out.at_ S)).mono ?_; rintro e w ⟨ju, js, rfl, hjs, T0⟩; have HJS := Lib.hid hjs; obtain ⟨L, hM, T⟩ := st_name ((S.call T0).perm List.perm_append_comm); clear T0 hjs; clear F S; replace HL := qNm HL hM; clear hM; have S := T; clear T; have F := qFc HL S))
        go_wp2_with (first | refine qLb6 S ?_ | (refine qst HL S 0 ?_; clear F S HL; intro w L HL S F) | (go_at_call 52; refine qPu (CV _) ?_) | (go_at_call 72; refine qGr S (C_impl_SharedMatrixValid _ _ _ _ _ _ _ _ _ _ (by exact HU.out.at_ S) (by exact HV.out.at_ S) (by exact HXO.out)) ?_; clear S; intro w S))
        refine ret3 rfl (resCell S HL 0 rfl rfl (by kernel_rfl)) (show _ = _ from rfl) (show _ = _ from rfl) rfl ?_
        exact ⟨_, _, _, rfl, S.nilScl _⟩
      | true =>
        obtain rfl : zs = none := by
          cases zs with
          | none => rfl
          | some p => cases hok
        dsimp only at CN
        clear hok
        obtain ⟨L, HL, S⟩ := st_start w0; have F : True := trivial
        go_enter Tryz.func31, Tryz.ntmps31
        go_upto_region 1 with (first | (refine qbd 4 HL S ?_; clear F S HL; intro gx w L HL S F) | (refine qal HL S zSMx ?_; clear F S HL; intro g6 w L HL S F))
        go_upto_region 2 with (first | (go_at_call 37; refine (CJ _ _ (HT.out.at_ S)).mono ?_; rintro e w ⟨ju, js, rfl, hjs, T0⟩; have HJS := Lib.hid hjs; obtain ⟨L, hM, T⟩ := st_name ((S.call T0).perm List.perm_append_comm); clear T0 hjs; clear F S; replace HL := qNm HL hM; clear hM; have S := T; clear T; have F := qFc HL S))
        go_wp2_with (first | refine qLb6 S ?_ | (refine qst HL S 0 ?_; clear F S HL; intro w L HL S F) | (go_at_call 52; refine qPu (CV _) ?_) | (go_at_call 72; refine qGr S (C_impl_SharedMatrixValid _ _ _ _ _ _ _ _ _ _ (by exact HU.out.at_ S) (by exact HV.out.at_ S) (by exact HXO.out)) ?_; clear S; intro w S) | (go_at_call 73; refine qGr S (CN _ _ (HJS.out ▸ sees_ls S (by rw [HL.out]; intro e he; simp [he]))) ?_; clear S; intro w S))
        refine ret3 rfl (resCell S HL 0 rfl rfl (by kernel_rfl)) (show _ = _ from rfl) (show _ = _ from rfl) rfl ?_
        exact ⟨_, _, _, rfl, S.nilScl _⟩
theorem C_impl_RunShared (ls : List SLy) (x : SMx) (s : Int) (t u v : Value) (z : Scd) (w0 : World) (ht : SeesSLs w0 t ls) (hsm : ∀ l ∈ ls, l.ws.length ≤ 1048576) (hu : Ints w0 u x.a.xs) (hv : Ints w0 v x.b.xs) (hz : runS ls x s = z) :
    Calls Tryz.prog 31 #[t, .agg #[.int .i64 (x).a.r, .int .i64 (x).a.c, u, .int .i64 (x).b.r, .int .i64 (x).b.c, v], .int .i64 s] w0 (MakesScl w0 z) := by
  cases hok : runOk ls x s with
  | false => rw [runS_not hok] at hz; subst hz; exact C_impl_Run_bad ls x s t u v w0 ht hsm hu hv hok
  | true => rw [runS_if hok] at hz; exact C_impl_Run_good ls x s t u v z w0 ht hsm hu hv hok hz
end
end Go.Proofs.YtjgfjfjboimgdaaGreat
