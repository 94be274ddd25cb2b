/- ScL ScM -/
import Derived.Test.YtjgfjfjboimgdaaGreatY19
namespace Go.Proofs.YtjgfjfjboimgdaaGreat
set_option linter.unusedSimpArgs false
set_option linter.unusedVariables false
set_option linter.unusedSectionVars false
open Go Go.RowKit
set_option maxHeartbeats 8000000
set_option maxRecDepth 20000
section
theorem C_spec_Scale_good (N2 C N : Nat) (r' c' rc' cc' : Int) (xs ys us vs : List Int) (A1 A2 A3 A4 : Option Addr) (k1 k2 k3 k4 : Nat) (seed : Int) (Z : Scl) (w0 : World)
    (HU : Hid (Ints w0 (.slice A1 xs.length k1) xs)) (HV : Hid (Ints w0 (.slice A2 ys.length k2) ys)) (HP : Hid (Ints w0 (.slice A3 us.length k3) us)) (HQ : Hid (Ints w0 (.slice A4 vs.length k4) vs))
    (r1 : 1 ≤ N2) (r2 : N2 ≤ 5) (c1 : 1 ≤ C) (c2 : C ≤ 5) (hRC : N2 * C = N) (hN : xs.length = N) (hN' : ys.length = N) (hN2 : N ≤ 25) (a1 : xs.all rv = true) (a2 : ys.all rv = true)
    (hM : us.length = N2) (hM' : vs.length = N2) (a3 : us.all rv = true) (a4 : vs.all rv = true) (h3 : seedOk seed = true)
    (h1 : likeMx ⟨N2, C, xs⟩ ⟨r', c', ys⟩ = true) (h2 : likeMx ⟨N2, 1, us⟩ ⟨rc', cc', vs⟩ = true) (hZ : Scl.mk xs ys us vs C seed = Z) :
    Calls Tryz.prog 49 #[.agg #[.int .i64 N2, .int .i64 C, .slice A1 xs.length k1, .int .i64 r', .int .i64 c', .slice A2 ys.length k2], .agg #[.int .i64 N2, .int .i64 1, .slice A3 us.length k3, .int .i64 rc', .int .i64 cc', .slice A4 vs.length k4], .int .i64 seed] w0 (MakesScl w0 ⟨⟨⟨N2, C, Z.fir N⟩, ⟨N2, C, Z.sec N⟩⟩, Z.opened N, seedAt seed (5 * N)⟩) := by
  unfold MakesScl
  dsimp only
  have CV : ∀ w : World, Calls Tryz.prog 44 #[.int .i64 seed, .int .i64 1, .int .i64 2147483646] w fun e w' => e = .returned (.bool (seedOk seed)) ∧ w = w' := fun w => C_spec_l1In seed 1 2147483646 w
  have CO := fun r c xs r' c' ys u v w h h' n n' => C_l1OwnSharedMatrix r c xs r' c' ys u v w h h' n n'
  unfold MakesSMx at CO
  have H1 := Lib.hid h1
  have H2 := Lib.hid h2
  have hZx : ∀ k, Z.x k = ⟨xs.getD k 0, ys.getD k 0⟩ := by intro k; rw [← hZ]; rfl
  have hZy : ∀ k, Z.y k = ⟨us.getD (k / C) 0, vs.getD (k / C) 0⟩ := by intro k; rw [← hZ]; rfl
  have hZt : ∀ k, Z.t k = triAt (seedAt seed (5 * k)) := by intro k; rw [← hZ]; rfl
  clear hZ h1 h2
  have HX := Lib.hid hZx
  have HY := Lib.hid hZy
  have HT := Lib.hid hZt
  have HA1 := Lib.hid a1
  have HA2 := Lib.hid a2
  have HA3 := Lib.hid a3
  have HA4 := Lib.hid a4
  have HS := Lib.hid h3
  have hN0 : 0 < N := by rw [← hRC]; exact Nat.mul_pos (by omega) (by omega)
  have HNC := Lib.hid hRC
  rw [h3] at CV
  clear hZx hZy hZt a1 a2 a3 a4 h3 hRC
  have HN := Lib.hid hN
  have HN' := Lib.hid hN'
  have HM := Lib.hid hM
  have HM' := Lib.hid hM'
  clear hN hN' hM hM'
  have B1 := Lib.hid (show xs.length ≤ 1048576 by rw [HN.out]; omega)
  have B2 := Lib.hid (show ys.length ≤ 1048576 by rw [HN'.out]; omega)
  have B3 := Lib.hid (show us.length ≤ 1048576 by rw [HM.out]; omega)
  have B4 := Lib.hid (show vs.length ≤ 1048576 by rw [HM'.out]; omega)
  obtain ⟨L, HL, S⟩ := st_start w0; have F : True := trivial
  go_enter Tryz.func49, Tryz.ntmps49
  go_upto_region 4 with (first | (refine qbd 3 HL S ?_; clear F S HL; intro gm w L HL S F) | (refine qbd 4 HL S ?_; clear F S HL; intro gc w L HL S F) | (refine qal HL S zSMx ?_; clear F S HL; intro gr w L HL S F) | (refine wpList_empty rfl S _ rfl 3 Tryz.underlying23 infoInt ?_; clear F S; intro g w L hM S; replace HL := qNm HL hM; clear hM; have F := qFc HL S) | (go_at_call 42; refine (CO _ _ _ _ _ _ _ _ _ (by first | exact HU.out.at_ S | exact HP.out.at_ S) (by first | exact HV.out.at_ S | exact HQ.out.at_ S) (by first | exact B1.out | exact B3.out) (by first | exact B2.out | exact B4.out)).mono ?_; rintro e w ⟨u, v, rfl, T0⟩; have hX := qcl HL S T0; clear F S HL T0; obtain ⟨L, HL, S, F⟩ := hX; obtain ⟨A', cap', rfl, hcap', hmax'⟩ := qSl HL S 0; obtain ⟨A', cap', rfl, hcap', hmax'⟩ := qSl HL S 1) | (refine qst HL S 2 ?_; clear F S HL; intro w L HL S F) | (refine qst HL S 3 ?_; clear F S HL; intro w L HL S F) | (refine qst HL S 4 ?_; clear F S HL; intro w L HL S F) | (refine qst HL S 5 ?_; clear F S HL; intro w L HL S F))
  clear CO
  obtain ⟨g4, q4, e4, hq4, hs4⟩ := S.rowAt (p := 1) (atOf HL rfl) (by rw [HM'.out]; omega)
  obtain ⟨g3, q3, e3, hq3, hs3⟩ := S.rowAt (p := 2) (atOf HL rfl) (by rw [HM.out]; omega)
  obtain ⟨g2, q2, e2, hq2, hs2⟩ := S.rowAt (p := 3) (atOf HL rfl) (by rw [HN'.out]; omega)
  obtain ⟨g1, q1, e1, hq1, hs1⟩ := S.rowAt (p := 4) (atOf HL rfl) (by rw [HN.out]; omega)
  rw [e1, e2, e3, e4] at HL ⊢
  clear e1 e2 e3 e4 F
  have F := factsAll HL S
  simp only [factsOf, cellsFrom, and_true, true_and, Nat.reduceAdd] at F
  go_upto_region 6 with (first | (go_at_call 44; refine qPu (CV _) ?_) | (go_at_call 43; refine qGr S (C_spec_SharedMatrixValid _ _ _ _ _ _ _ _ _ _ (by exact (Sees.row S qAt).ints) (by exact (Sees.row S qAt).ints) (by first | exact H1.out | exact H2.out)) ?_; clear S; intro w S))
  go_upto_region 7 with (first | (refine qal HL S zSMx ?_; clear F S HL; intro g10 w L HL S F) | (refine qst HL S 0 ?_; clear F S HL; intro w L HL S F))
  clear CV
  rw [HL.out] at S
  replace S := ((S.nilRow 3 1).nilRow 3 1).front (p := 3) rfl
  simp only [List.eraseIdx_cons_succ, List.eraseIdx_cons_zero] at S
  clear HL F
  obtain ⟨L, hM, T⟩ := st_name S; clear S; have S := T; clear T; have HL := Lib.hid hM; clear hM; have F := qFc HL S
  go_wp2
  go_loopw [2, 9, 11] (fun sd o i wr => ∃ (k : Nat) (E1 E2 : Option Addr) (m1 m2 : Nat) (L : List Ent), k ≤ N ∧ i = .int .i64 k ∧ sd = .int .i64 (seedAt seed (5 * k)) ∧ Hid (L = [.row 3 1 o (2 * k) (ints (Z.opened k)), .row 3 1 (.slice E2 k m2) k (ints (Z.sec k)), .row 3 1 (.slice E1 k m1) k (ints (Z.fir k)), .box g10 32 [.int .i64 N2, .int .i64 C, .slice E1 k m1, .int .i64 N2, .int .i64 C, .slice E2 k m2], .row 3 1 (.slice (some ⟨g4, 0, none⟩) vs.length q4) vs.length (ints vs), .row 3 1 (.slice (some ⟨g3, 0, none⟩) us.length q3) us.length (ints us), .row 3 1 (.slice (some ⟨g2, 0, none⟩) ys.length q2) ys.length (ints ys), .row 3 1 (.slice (some ⟨g1, 0, none⟩) xs.length q1) xs.length (ints xs), .box gr 32 [.int .i64 0, .int .i64 0, .slice none 0 0, .int .i64 0, .int .i64 0, .slice none 0 0], .box gc 32 [.int .i64 N2, .int .i64 1, .slice (some ⟨g3, 0, none⟩) us.length q3, .int .i64 rc', .int .i64 cc', .slice (some ⟨g4, 0, none⟩) vs.length q4], .box gm 32 [.int .i64 N2, .int .i64 C, .slice (some ⟨g1, 0, none⟩) xs.length q1, .int .i64 r', .int .i64 c', .slice (some ⟨g2, 0, none⟩) ys.length q2]]) ∧ St w0 wr L) (fun _ _ i _ => N - (intOf i).toNat)
  case atStart => exact ⟨0, none, none, 0, 0, L, Nat.zero_le _, rfl, rfl, HL, S⟩
  case round =>
    clear F HL S
    obtain ⟨k, E1, E2, m1, m2, L, hk, rfl, rfl, HL, S⟩ := hrel
    have F := factsAll HL S
    simp only [factsOf, cellsFrom, and_true, true_and, Nat.reduceAdd] at F
    by_cases hlt : k < N
    · have hlx : k < xs.length := by rw [HN.out]; exact hlt
      have hsd : seedOk (seedAt seed (5 * k)) = true := by have := seedAt_pos (seedOk_bd HS.out) (5 * k); simp [seedOk, this]
      have CM := fun w => C_spec_MakeTriple (seedAt seed (5 * k)) w hsd
      rw [seedAt_add, ← HT.out k] at CM
      have htok : triOk (Z.t k) = true := by rw [HT.out]; exact triAt_ok _
      have hP : Z.p k = mulV (Z.t k) (Z.d k) (Z.e k) := rfl
      have hD : dOf (Z.x k) (Z.t k) = Z.d k := rfl
      have hE : eOf (Z.y k) (Z.t k) = Z.e k := rfl
      rw [HX.out] at hD
      rw [HY.out] at hE
      obtain ⟨j, hj⟩ : ∃ j, k / C = j := ⟨_, rfl⟩
      have hjl : j < N2 := by rw [← hj]; exact Nat.div_lt_of_lt_mul (by rw [Nat.mul_comm, HNC.out]; exact hlt)
      rw [hj] at hE
      have w1 : Int.tdiv (k : Int) (C : Int) = (j : Int) := by rw [tdiv_nat, hj]
      have w2 : IntKind.i64.wrap (j : Int) = (j : Int) := wrap_nat rfl (by omega)
      have g1' := sh_ok2 (all_rv HA1.out (k := k) (by rw [HN.out]; exact hlt)) (all_rv HA2.out (k := k) (by rw [HN'.out]; exact hlt))
      have g2' := sh_ok2 (all_rv HA3.out (k := j) (by rw [HM.out]; exact hjl)) (all_rv HA4.out (k := j) (by rw [HM'.out]; exact hjl))
      have ex0 := ints_getD xs k (by rw [HN.out]; exact hlt)
      have ex1 := ints_getD ys k (by rw [HN'.out]; exact hlt)
      have ey0 := ints_getD us j (by rw [HM.out]; exact hjl)
      have ey1 := ints_getD vs j (by rw [HM'.out]; exact hjl)
      generalize xs.getD k 0 = x0 at g1' hD ex0
      generalize ys.getD k 0 = x1 at g1' hD ex1
      generalize us.getD j 0 = y0 at g2' hE ey0
      generalize vs.getD j 0 = y1 at g2' hE ey1
      have X0 := Lib.hid ex0
      have X1 := Lib.hid ex1
      have Y0 := Lib.hid ey0
      have Y1 := Lib.hid ey1
      have ef : Z.fir (k + 1) = Z.fir k ++ [(Z.p k).a] := tab_succ _ _
      have es : Z.sec (k + 1) = Z.sec k ++ [(Z.p k).b] := tab_succ _ _
      have eo : Z.opened (k + 1) = Z.opened k ++ [Z.d k, Z.e k] := rfl
      generalize Z.t k = t at CM htok hP hD hE
      generalize Z.d k = dd at hP hD eo
      generalize Z.e k = ee at hP hE eo
      generalize Z.p k = pp at hP ef es
      obtain ⟨pa, pb⟩ := pp
      obtain ⟨⟨t0, t1⟩, ⟨t2, t3⟩, ⟨t4, t5⟩⟩ := t
      dsimp only at ef es
      have CMU := fun w => C_spec_MulV x0 x1 y0 y1 t0 t1 t2 t3 t4 t5 dd ee pa pb w g1' g2' htok hD hE hP.symm
      unfold MakesMul at CMU
      unfold triL at CM
      dsimp only at CM
      have EF := Lib.hid ef
      have ES := Lib.hid es
      have EO := Lib.hid eo
      have hjx : j < us.length := by rw [HM.out]; exact hjl
      have hjy : j < vs.length := by rw [HM'.out]; exact hjl
      have hly : k < ys.length := by rw [HN'.out]; exact hlt
      have hC0 : ¬ C = 0 := by omega
      clear ex0 ex1 ey0 ey1 ef es eo hj hsd htok hP hD hE g1' g2'
      generalize seedAt seed (5 * k) = s0 at CM ⊢
      go_upto_region 12 with (first | (refine qal HL S zTri ?_; clear F S HL; intro g13 w L HL S F) | (go_at_call 97; refine qGr S (CM _) ?_; clear S; intro w S) | (refine qst HL S 0 ?_; clear F S HL; intro w L HL S F))
      have d0 := fun w' (S' : St w0 w' L) => (S'.rowCell (p := 8) (atOf HL rfl) k (by omega)).trans X0.out
      have d1 := fun w' (S' : St w0 w' L) => (S'.rowCell (p := 7) (atOf HL rfl) k (by omega)).trans X1.out
      have d2 := fun w' (S' : St w0 w' L) => (S'.rowCell (p := 6) (atOf HL rfl) j (by omega)).trans Y0.out
      have d3 := fun w' (S' : St w0 w' L) => (S'.rowCell (p := 5) (atOf HL rfl) j (by omega)).trans Y1.out
      have HL0 := HL; have F0 := F; refine wp_region_tree (S := fun w' => St w0 w' L) (qcs 0 27 (.act 27 (qcs 28 4 (.act 32 (.act 33 (.calm 34 (.calm 35 .fin)) .stop) .stop)) (.act 32 (.act 27 (qcs 28 4 (.act 33 (.calm 34 (.calm 35 .fin)) .stop)) .stop) .stop))) (by kernel_rfl) (by kernel_rfl) (by kernel_rfl) (by intro c a d v w h; cases d <;> exact h) ?_; dsimp only [qcs, Nat.reduceAdd]; replace S := S.drew
      repeat' (first | refine qCa ?_ | refine qAn ?_ | refine qSk ?_ | exact tree_stop | (refine tree_act rfl rfl ?_ ?_) | (intro K hK; (refine qaw HL S zSh ?_; clear F S HL; intro g w L HL S F); (refine qKo hK ?_; clear hK K)) | (intro K hK; (refine qsw HL S 0 ?_; clear F S HL; intro w L HL S F); (refine qKo hK ?_; clear hK K)) | (intro K hK; (refine qsw HL S 1 ?_; clear F S HL; intro w L HL S F); (refine qKo hK ?_; clear hK K)) | (intro K hK; go_wp2_with (first | (go_at_call 98; refine (CMU _).mono ?_; rintro e w ⟨uo, rfl, T0⟩; have hX := qcl HL S T0; clear F S HL T0; obtain ⟨L, HL, S, F⟩ := hX)); (refine qKo hK ?_; clear hK K)))
      all_goals
        refine tree_fin ?_
        clear HL0 F0 d0 d1 d2 d3
        clear CMU CM
        go_wp2_with (first | (refine wpList_lit rfl S _ _ _ rfl 3 Tryz.underlying23 infoInt (by simp [Act.eval]) (by simp [Act.eval, Value.oneCell']) rfl rfl rfl ?_; clear F S; intro g w L hM S; replace HL := qNm HL hM; clear hM; have F := qFc HL S) | ((refine wpList_append_box rfl S _ _ _ rfl 3 _ 1 8 Tryz.underlying23 infoInt rfl (by omega) _ _ _ _ rfl qAt (by omega) _ _ _ _ _ _ rfl qAt rfl rfl rfl rfl ?_; clear F S; intro u w L hM S; replace HL := qNm HL hM; clear hM; have F := qFc HL S); obtain ⟨A', cap', rfl, hcap', hmax'⟩ := qSl HL S 6) | (refine qst HL S 7 ?_; clear F S HL; intro w L HL S F) | (refine qst HL S 8 ?_; clear F S HL; intro w L HL S F) | ((refine wpList_append_see rfl S _ _ _ rfl _ 3 _ 1 8 Tryz.underlying23 infoInt rfl (by omega) _ _ _ rfl qAt _ _ _ rfl (by exact (Sees.row S qAt)) (ints_one _) (by simp only [maxLen]; omega) (by omega) ?_; clear F S; intro u' w L hM S; replace HL := qNm HL hM; clear hM; have F := qFc HL S)))
        go_roundw
        case rel =>
          have e1 : ints (Z.fir k) ++ [.int .i64 pa] = ints (Z.fir (k + 1)) := by rw [EF.out, ints_append]; rfl
          have e2 : ints (Z.sec k) ++ [.int .i64 pb] = ints (Z.sec (k + 1)) := by rw [ES.out, ints_append]; rfl
          have e3 : ints (Z.opened k) ++ ints [dd, ee] = ints (Z.opened (k + 1)) := by rw [EO.out, ints_append]
          rw [HL.out, e1, e2, e3] at S
          exact ⟨k + 1, _, _, _, _, _, by omega, by go_num, rfl, Lib.hid rfl, S.sub (by repeat (first | exact .refl _ | exact List.nil_sublist _ | apply List.Sublist.cons_cons | apply List.Sublist.cons))⟩
        case measure => simp [intOf]; omega
    · obtain rfl : k = N := by omega
      have hlx : ¬ k < xs.length := by rw [HN.out]; omega
      go_wp2_with (first | (refine qst HL S 8 ?_; clear F S HL; intro w L HL S F))
      refine ret3 rfl (resCell S HL 8 rfl rfl (by kernel_rfl)) (show _ = _ from rfl) (show _ = _ from rfl) rfl ?_
      refine ⟨_, _, _, rfl, ?_⟩
      rw [Scl.opened_length]
      rw [show (Z.sec k).length = k from tab_length _ _, show (Z.fir k).length = k from tab_length _ _]
      exact (by rw [HL.out] at S; exact S.sub (by repeat (first | exact .refl _ | exact List.nil_sublist _ | apply List.Sublist.cons_cons | apply List.Sublist.cons)))
end
section
open Go Go.RowKit Go.ChangeShapes Go.WideShapes Go.ChangeAt
theorem C_spec_ScaleShared (r c : Int) (xs : List Int) (r' c' : Int) (ys : List Int) (u v : Value) (rc cc : Int) (us : List Int) (rc' cc' : Int) (vs : List Int) (p q : Value) (seed : Int) (z : Scd) (w0 : World)
    (hu : Ints w0 u xs) (hv : Ints w0 v ys) (hp : Ints w0 p us) (hq : Ints w0 q vs) (n1 : xs.length ≤ 1048576) (n2 : ys.length ≤ 1048576) (n3 : us.length ≤ 1048576) (n4 : vs.length ≤ 1048576) (hz : scaleS ⟨⟨r, c, xs⟩, ⟨r', c', ys⟩⟩ ⟨⟨rc, cc, us⟩, ⟨rc', cc', vs⟩⟩ seed = z) :
    Calls Tryz.prog 49 #[.agg #[.int .i64 r, .int .i64 c, u, .int .i64 r', .int .i64 c', v], .agg #[.int .i64 rc, .int .i64 cc, p, .int .i64 rc', .int .i64 cc', q], .int .i64 seed] w0 (MakesScl w0 z) := by
  by_cases hok : scaleOk ⟨⟨r, c, xs⟩, ⟨r', c', ys⟩⟩ ⟨⟨rc, cc, us⟩, ⟨rc', cc', vs⟩⟩ seed = true
  · obtain ⟨N2, C, N, rfl, rfl, rfl, rfl, r1, r2, c1, c2, hRC, hN, hN', hN2, a1, a2, hM, hM', a3, a4, h3, h1, h2, hs⟩ := scale_good hok
    rw [hs] at hz
    subst hz
    have HU := Lib.hid hu
    have HV := Lib.hid hv
    have HP := Lib.hid hp
    have HQ := Lib.hid hq
    obtain ⟨_, A1, k1, rfl, _, _, _⟩ := hu
    obtain ⟨_, A2, k2, rfl, _, _, _⟩ := hv
    obtain ⟨_, A3, k3, rfl, _, _, _⟩ := hp
    obtain ⟨_, A4, k4, rfl, _, _, _⟩ := hq
    exact C_spec_Scale_good N2 C N r' c' rc' cc' xs ys us vs A1 A2 A3 A4 k1 k2 k3 k4 seed _ w0 HU HV HP HQ r1 r2 c1 c2 hRC hN hN' hN2 a1 a2 hM hM' a3 a4 h3 h1 h2 rfl
  · rw [scaleS_not (by simpa using hok)] at hz
    subst hz
    exact C_spec_Scale_bad r c xs r' c' ys u v rc cc us rc' cc' vs p q seed w0 hu hv hp hq n1 n2 n3 n4 hok
end
end Go.Proofs.YtjgfjfjboimgdaaGreat
