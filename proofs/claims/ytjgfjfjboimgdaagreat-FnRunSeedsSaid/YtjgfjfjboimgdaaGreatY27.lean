/- MpS -/
import Derived.Test.YtjgfjfjboimgdaaGreatY24
namespace Go.Proofs.YtjgfjfjboimgdaaGreat
set_option linter.unusedSimpArgs false
set_option linter.unusedVariables false
set_option linter.unusedSectionVars false
open Go Go.RowKit
set_option maxHeartbeats 8000000
set_option maxRecDepth 20000
section
attribute [local irreducible] wpList Oper.wp Calls
theorem C_spec_Map_good (k : Int) (R C N : Nat) (xs ys : List Int) (A1 A2 : Option Addr) (k1 k2 : Nat) (seed : Int) (w0 : World)
    (HU : Hid (Ints w0 (.slice A1 xs.length k1) xs)) (HV : Hid (Ints w0 (.slice A2 ys.length k2) ys)) (hk : 1 ≤ k ∧ k ≤ 5)
    (r1 : 1 ≤ R) (r2 : R ≤ 5) (c1 : 1 ≤ C) (c2 : C ≤ 5) (hRC : R * C = N) (hN : xs.length = N) (hN' : ys.length = N) (hN2 : N ≤ 25) (a1 : xs.all rv = true) (a2 : ys.all rv = true) (hs : seedOk seed = true) :
    Calls Tryz.prog 47 #[.int .i64 k, .agg #[.int .i64 R, .int .i64 C, .slice A1 xs.length k1, .int .i64 R, .int .i64 C, .slice A2 ys.length k2], .int .i64 seed] w0
      (MakesScl w0 ⟨⟨⟨R, C, tab N (mapA k ⟨⟨R, C, xs⟩, ⟨R, C, ys⟩⟩ seed)⟩, ⟨R, C, tab N (mapB k ⟨⟨R, C, xs⟩, ⟨R, C, ys⟩⟩ seed)⟩⟩, tab N (mapO ⟨⟨R, C, xs⟩, ⟨R, C, ys⟩⟩ seed), seedT seed N⟩) := by
  unfold MakesScl
  dsimp only
  rw [tab_length, tab_length, tab_length]
  have hl : likeMx ⟨R, C, xs⟩ ⟨R, C, ys⟩ = true := by
    simp only [likeMx, Bool.and_eq_true, decide_eq_true_eq]
    exact ⟨⟨⟨Mx.ok_of r1 r2 c1 c2 (by rw [hN, hRC]) a1, Mx.ok_of r1 r2 c1 c2 (by rw [hN', hRC]) a2⟩, trivial⟩, trivial⟩
  have CO := fun w h h' => C_l1OwnSharedMatrix R C xs R C ys (.slice A1 xs.length k1) (.slice A2 ys.length k2) w h h' (by omega) (by omega)
  unfold MakesSMx at CO
  rw [hN] at HU CO
  rw [hN'] at HV CO
  rw [hN, hN']
  have HLK := Lib.hid hl
  have CV := fun w => C_l1InT seed 1 2147483646 w (seedOk_bd hs)
  have CK := fun w => C_l1InT k 1 5 w hk
  have CF := fun w => C_spec_FunctionValues k hk w
  have hN0 : 0 < N := by rw [← hRC]; exact Nat.mul_pos (by omega) (by omega)
  obtain ⟨m, hm⟩ : ∃ m, SMx.mk ⟨R, C, xs⟩ ⟨R, C, ys⟩ = m := ⟨_, rfl⟩
  rw [hm]
  have hsh : ∀ q, shAt m q = ⟨xs.getD q 0, ys.getD q 0⟩ := fun q => by rw [← hm]; rfl
  have HSH := Lib.hid hsh
  have HS := Lib.hid hs
  have HN := Lib.hid hN
  have HN' := Lib.hid hN'
  have HA1 := Lib.hid a1
  have HA2 := Lib.hid a2
  clear hl hs hm hsh hN hN' hRC a1 a2 hk
  obtain ⟨L, HL, S⟩ := st_start w0; have F : True := trivial
  go_enter Tryz.func47, Tryz.ntmps47
  go_upto_region 3 with (first | (refine qbd 4 HL S ?_; clear F S HL; intro gm w L HL S F) | (refine qal HL S zSMx ?_; clear F S HL; intro gr w L HL S F) | refine qLb6 S ?_ | (go_at_call 42; refine (CO _ (HU.out.at_ S) (HV.out.at_ S)).mono ?_; rintro e w ⟨u, v, rfl, T0⟩; have hX := qcl HL S T0; clear F S HL T0; obtain ⟨L, HL, S, F⟩ := hX; obtain ⟨A', cap', rfl, hcap', hmax'⟩ := qSl HL S 0; obtain ⟨A', cap', rfl, hcap', hmax'⟩ := qSl HL S 1) | (refine wpList_empty rfl S _ rfl 3 Tryz.underlying23 infoInt ?_; clear F S; intro g w L hM S; replace HL := qNm HL hM; clear hM; have F := qFc HL S) | (refine qst HL S 3 ?_; clear F S HL; intro w L HL S F))
  clear CO
  obtain ⟨gv, cv, ev, hcv, hmv⟩ := S.rowAt (p := 1) (atOf HL rfl) hN0
  obtain ⟨gu, cu, eu, hcu, hmu⟩ := S.rowAt (p := 2) (atOf HL rfl) hN0
  rw [ev, eu] at HL F
  (try rw [ev, eu])
  clear ev eu
  go_upto_region 5 with (first | refine qLb6 S ?_ | (go_at_call 44; refine qPu (CV _) ?_) | (go_at_call 44; refine qPu (CK _) ?_) | (go_at_call 43; refine qGr S (C_spec_SharedMatrixValid _ _ _ _ _ _ _ _ _ _ (by unfold Ints; rw [HN.out]; exact (Sees.row S qAt)) (by unfold Ints; rw [HN'.out]; exact (Sees.row S qAt)) (by exact HLK.out)) ?_; clear S; intro w S))
  go_upto_region 6 with (first | (go_at_call 92; refine (CF _).mono ?_; rintro e w ⟨u, rfl, T0⟩; have hX := qcl HL S T0; clear F S HL T0; obtain ⟨L, HL, S, F⟩ := hX))
  obtain ⟨gf, cf, rfl, hcf, hmf⟩ := S.rowAt (p := 0) (atOf HL rfl) (by omega)
  clear CV CK CF
  go_upto_region 7 with (first | (refine qal HL S zSMx ?_; clear F S HL; intro g11 w L HL S F) | (refine qst HL S 0 ?_; clear F S HL; intro w L HL S F))
  rw [HL.out] at S
  replace S := ((S.nilRow 3 1).nilRow 3 1).front (p := 4) rfl
  simp only [List.eraseIdx_cons_succ, List.eraseIdx_cons_zero] at S
  clear HL F
  obtain ⟨L, hM, T⟩ := st_name S; clear S; have S := T; clear T; have HL := Lib.hid hM; clear hM; have F := qFc HL S
  go_wp2
  go_loopw [2, 9, 12] (fun sd o i wr => ∃ (q : Nat) (E1 E2 : Option Addr) (m1 m2 : Nat) (L : List Ent), q ≤ N ∧ i = .int .i64 q ∧ sd = .int .i64 (seedT seed q) ∧ Hid (L = [.row 3 1 o q (ints (tab q (mapO m seed))), .row 3 1 (.slice E2 q m2) q (ints (tab q (mapB k m seed))), .row 3 1 (.slice E1 q m1) q (ints (tab q (mapA k m seed))), .box g11 32 [.int .i64 R, .int .i64 C, .slice E1 q m1, .int .i64 R, .int .i64 C, .slice E2 q m2], .row 3 1 (.slice (some ⟨gf, 0, none⟩) 4096 cf) 4096 (ints (valsOf k)), .row 3 1 (.slice (some ⟨gv, 0, none⟩) N cv) N (ints ys), .row 3 1 (.slice (some ⟨gu, 0, none⟩) N cu) N (ints xs), .box gr 32 [.int .i64 0, .int .i64 0, .slice none 0 0, .int .i64 0, .int .i64 0, .slice none 0 0], .box gm 32 [.int .i64 R, .int .i64 C, .slice (some ⟨gu, 0, none⟩) N cu, .int .i64 R, .int .i64 C, .slice (some ⟨gv, 0, none⟩) N cv]]) ∧ St w0 wr L) (fun _ _ i _ => N - (intOf i).toNat)
  case atStart => exact ⟨0, none, none, 0, 0, L, Nat.zero_le _, rfl, rfl, HL, S⟩
  case round =>
    clear F HL S
    obtain ⟨q, E1, E2, m1, m2, L, hq, rfl, rfl, HL, S⟩ := hrel
    have F := factsAll HL S
    simp only [factsOf, cellsFrom, and_true, true_and, Nat.reduceAdd] at F
    by_cases hlt : q < N
    · have hsd := seedT_ok HS.out q
      have CM := fun w h => C_spec_MakeTable (valsOf k) (.slice (some ⟨gf, 0, none⟩) 4096 cf) (seedT seed q) w h (valsOf_len k) (valsOf_all k) hsd
      unfold MakesTab at CM
      have hnx : tabNext (seedT seed q) = seedT seed (q + 1) := rfl
      rw [hnx] at CM
      have hok1 : Sh.ok ⟨xs.getD q 0, ys.getD q 0⟩ = true := sh_ok2 (getD_rv HA1.out q) (getD_rv HA2.out q)
      have hob := openAt_bd (x := shAt m q) (by rw [HSH.out]; exact hok1) (seedT seed q)
      obtain ⟨o2, ho, ho2⟩ : ∃ o : Nat, mapO m seed q = (o : Int) ∧ o < 4096 := ⟨(openAt (shAt m q) (seedT seed q)).toNat, by show openAt (shAt m q) (seedT seed q) = _; omega, by omega⟩
      have hoo : openAt (shAt m q) (seedT seed q) = (o2 : Int) := ho
      have hx : (firstAt (seedT seed q)).getD o2 0 = mapA k m seed q := by
        simp only [mapA, lookAt]
        rw [hoo, Int.toNat_natCast]
      have hy : (secondAt (valsOf k) (seedT seed q)).getD o2 0 = mapB k m seed q := by
        simp only [mapB, lookAt]
        rw [hoo, Int.toNat_natCast]
      have hadd : addR (joinS ⟨xs.getD q 0, ys.getD q 0⟩) (joinS (shiftAt (seedT seed q))) = (o2 : Int) := by
        rw [← hoo, HSH.out]
        rfl
      have hok2 := shiftAt_ok (seedT seed q)
      have lf := firstAt_len (seedT seed q)
      have ls := secondAt_len (valsOf k) (seedT seed q)
      have af := firstAt_all (seedT seed q)
      have az := secondAt_all (valsOf_all k) (seedT seed q)
      have ef : ints (tab (q + 1) (mapA k m seed)) = ints (tab q (mapA k m seed)) ++ [.int .i64 (mapA k m seed q)] := by rw [tab_succ, ints_append]; rfl
      have es : ints (tab (q + 1) (mapB k m seed)) = ints (tab q (mapB k m seed)) ++ [.int .i64 (mapB k m seed q)] := by rw [tab_succ, ints_append]; rfl
      have eo : ints (tab (q + 1) (mapO m seed)) = ints (tab q (mapO m seed)) ++ [.int .i64 (o2 : Int)] := by rw [tab_succ, ints_append, ho]; rfl
      generalize firstAt (seedT seed q) = fs at *
      generalize secondAt (valsOf k) (seedT seed q) = ss at *
      generalize shiftAt (seedT seed q) = sf at *
      obtain ⟨pa, pb⟩ := sf
      generalize mapA k m seed q = za at hx ef
      generalize mapB k m seed q = zb at hy es
      dsimp only at CM
      have x0 := ints_getD xs q (by rw [HN.out]; exact hlt)
      have y0 := ints_getD ys q (by rw [HN'.out]; exact hlt)
      generalize xs.getD q 0 = x at hok1 hadd x0
      generalize ys.getD q 0 = y at hok1 hadd y0
      have CU := fun u v w hu hv => C_spec_UseTable x y pa pb fs ss u v o2 za zb w hok1 hok2 hu hv lf ls af az hadd ho2 hx hy
      have X0 := Lib.hid x0
      have Y0 := Lib.hid y0
      have LF := Lib.hid lf
      have LS := Lib.hid ls
      have EF := Lib.hid ef
      have ES := Lib.hid es
      have EO := Lib.hid eo
      obtain ⟨XA, hXA⟩ : ∃ X, ints (tab q (mapA k m seed)) = X := ⟨_, rfl⟩
      obtain ⟨XB, hXB⟩ : ∃ X, ints (tab q (mapB k m seed)) = X := ⟨_, rfl⟩
      obtain ⟨XO, hXO⟩ : ∃ X, ints (tab q (mapO m seed)) = X := ⟨_, rfl⟩
      rw [hXA, hXB, hXO] at HL
      rw [hXA] at EF
      rw [hXB] at ES
      rw [hXO] at EO
      obtain ⟨VL, hVL⟩ : ∃ V, valsOf k = V := ⟨_, rfl⟩
      rw [hVL] at HL CM
      have HVL := Lib.hid hVL
      have hVlen : VL.length = 4096 := hVL ▸ valsOf_len k
      have HVlen := Lib.hid hVlen
      generalize hs0 : seedT seed q = s0 at CM ⊢
      generalize hs1 : seedT seed (q + 1) = s1 at CM
      have HS1 := Lib.hid hs1
      clear hsd hnx hob ho hoo hx hy hadd hok1 hok2 lf ls af az ef es eo x0 y0 hXA hXB hXO hVL hVlen hs0 hs1 ho2
      go_upto_region 11 with (first | (refine qal HL S zTable ?_; clear F S HL; intro g13 w L HL S F) | (go_at_call 93; refine (CM _ (by unfold Ints; rw [HVlen.out]; exact (Sees.row S qAt))).mono ?_; rintro e w ⟨u1, v1, rfl, T0⟩; have hX := qcl HL S T0; clear F S HL T0; obtain ⟨L, HL, S, F⟩ := hX; obtain ⟨Av, cv1, rfl, hcv1, hmv1⟩ := qSl HL S 0; obtain ⟨Au, cu1, rfl, hcu1, hmu1⟩ := qSl HL S 1) | (refine qst HL S 0 ?_; clear F S HL; intro w L HL S F))
      have d0 := fun w' (S' : St w0 w' L) => (S'.rowCell (p := 9) (atOf HL rfl) q (by omega)).trans X0.out
      have d1 := fun w' (S' : St w0 w' L) => (S'.rowCell (p := 8) (atOf HL rfl) q (by omega)).trans Y0.out
      have HL0 := HL; have F0 := F; refine wp_region_tree (S := fun w' => St w0 w' L) (qcs 0 14 (.act 14 (qcs 15 4 (.act 19 (.act 20 (.calm 21 (.calm 22 .fin)) .stop) .stop)) (.act 19 (.act 14 (qcs 15 4 (.act 20 (.calm 21 (.calm 22 .fin)) .stop)) .stop) .stop))) (by kernel_rfl) (by kernel_rfl) (by kernel_rfl) (by intro c a d v w h; cases d <;> exact h) ?_; dsimp only [qcs, Nat.reduceAdd]; replace S := S.drew
      repeat' (first | refine qCa ?_ | refine qAn ?_ | refine qSk ?_ | exact tree_stop | (refine tree_act rfl rfl ?_ ?_) | (intro K hK; (refine qaw HL S zSh ?_; clear F S HL; intro g w L HL S F); (refine qKo hK ?_; clear hK K)) | (intro K hK; (refine qsw HL S 0 ?_; clear F S HL; intro w L HL S F); (refine qKo hK ?_; clear hK K)) | (intro K hK; go_wp2_with (first | (go_at_call 94; refine qGr S (CU _ _ _ (by unfold Ints; rw [LF.out]; exact (Sees.row S qAt)) (by unfold Ints; rw [LS.out]; exact (Sees.row S qAt))) ?_; clear S; intro w S)); (refine qKo hK ?_; clear hK K)))
      all_goals
        refine tree_fin ?_
        clear HL0 F0 d0 d1
        clear CU CM
        go_upto_region 13 with (first | (refine wpList_lit rfl S _ _ _ rfl 3 Tryz.underlying23 infoInt (by simp [Act.eval]) (by simp [Act.eval, Value.oneCell']) rfl rfl rfl ?_; clear F S; intro g w L hM S; replace HL := qNm HL hM; clear hM; have F := qFc HL S) | ((refine wpList_append_box rfl S _ _ _ rfl 3 _ 1 8 Tryz.underlying23 infoInt rfl (by omega) _ _ _ _ rfl qAt (by omega) _ _ _ _ _ _ rfl qAt rfl rfl rfl rfl ?_; clear F S; intro u w L hM S; replace HL := qNm HL hM; clear hM; have F := qFc HL S); obtain ⟨A', cap', rfl, hcap', hmax'⟩ := qSl HL S 7) | (refine qst HL S 8 ?_; clear F S HL; intro w L HL S F))
        go_upto_region 14 with (first | (refine wpList_lit rfl S _ _ _ rfl 3 Tryz.underlying23 infoInt (by simp [Act.eval]) (by simp [Act.eval, Value.oneCell']) rfl rfl rfl ?_; clear F S; intro g w L hM S; replace HL := qNm HL hM; clear hM; have F := qFc HL S) | ((refine wpList_append_box rfl S _ _ _ rfl 3 _ 1 8 Tryz.underlying23 infoInt rfl (by omega) _ _ _ _ rfl qAt (by omega) _ _ _ _ _ _ rfl qAt rfl rfl rfl rfl ?_; clear F S; intro u w L hM S; replace HL := qNm HL hM; clear hM; have F := qFc HL S); obtain ⟨A', cap', rfl, hcap', hmax'⟩ := qSl HL S 7) | (refine qst HL S 9 ?_; clear F S HL; intro w L HL S F))
        go_wp2_with (first | (refine wpList_lit rfl S _ _ _ rfl 3 Tryz.underlying23 infoInt (by simp [Act.eval]) (by simp [Act.eval, Value.oneCell']) rfl rfl rfl ?_; clear F S; intro g w L hM S; replace HL := qNm HL hM; clear hM; have F := qFc HL S) | (refine wpList_append_box rfl S _ _ _ rfl 3 _ 1 8 Tryz.underlying23 infoInt rfl (by omega) _ _ _ _ rfl qAt (by omega) _ _ _ _ _ _ rfl qAt rfl rfl rfl rfl ?_; clear F S; intro u w L hM S; replace HL := qNm HL hM; clear hM; have F := qFc HL S))
        go_roundw
        case rel =>
          rw [← EF.out, ← ES.out, ← EO.out, ← HVL.out] at HL
          exact ⟨q + 1, _, _, _, _, _, by omega, by go_num, by rw [HS1.out], Lib.hid rfl, (by rw [HL.out] at S; exact S.sel (by exact qSel))⟩
        case measure => simp [intOf]; omega
    · obtain rfl : q = N := by omega
      go_wp2_with (first | refine qLb6 S ?_ | (refine qst HL S 7 ?_; clear F S HL; intro w L HL S F))
      refine ret3 rfl (resCell S HL 7 rfl rfl (by kernel_rfl)) (show _ = _ from rfl) (show _ = _ from rfl) rfl ?_
      exact ⟨_, _, _, rfl, (by rw [HL.out] at S; exact S.sel (by exact qSel))⟩
theorem C_spec_Map_bad (k : Int) (r c : Int) (xs : List Int) (r' c' : Int) (ys : List Int) (u v : Value) (seed : Int) (w0 : World)
    (hu : Ints w0 u xs) (hv : Ints w0 v ys) (n1 : xs.length ≤ 1048576) (n2 : ys.length ≤ 1048576) (hok : mapOk k ⟨⟨r, c, xs⟩, ⟨r', c', ys⟩⟩ seed = false) :
    Calls Tryz.prog 47 #[.int .i64 k, .agg #[.int .i64 r, .int .i64 c, u, .int .i64 r', .int .i64 c', v], .int .i64 seed] w0 (MakesScl w0 ⟨SMx.zero, [], 0⟩) := by
  unfold MakesScl
  have HU := Lib.hid hu
  have HV := Lib.hid hv
  obtain ⟨_, A1, k1, rfl, hk1, hm1, _⟩ := hu
  obtain ⟨_, A2, k2, rfl, hk2, hm2, _⟩ := hv
  have CO := fun w h h' => C_l1OwnSharedMatrix r c xs r' c' ys (.slice A1 xs.length k1) (.slice A2 ys.length k2) w h h' n1 n2
  unfold MakesSMx at CO
  have CV : ∀ w : World, Calls Tryz.prog 44 #[.int .i64 seed, .int .i64 1, .int .i64 2147483646] w fun e w' => e = .returned (.bool (seedOk seed)) ∧ w = w' := fun w => C_spec_l1In seed 1 2147483646 w
  have CK : ∀ w : World, Calls Tryz.prog 44 #[.int .i64 k, .int .i64 1, .int .i64 5] w fun e w' => e = .returned (.bool (decide (1 ≤ k) && decide (k ≤ 5))) ∧ w = w' := fun w => C_spec_l1In k 1 5 w
  have hok' : (likeMx ⟨r, c, xs⟩ ⟨r', c', ys⟩ && (decide (1 ≤ k) && decide (k ≤ 5)) && seedOk seed) = false := hok
  clear hok n1 n2
  generalize (decide (1 ≤ k) && decide (k ≤ 5)) = bk at CK hok'
  generalize seedOk seed = bs at CV hok'
  cases h1 : likeMx ⟨r, c, xs⟩ ⟨r', c', ys⟩ with
  | false =>
    have H1 := Lib.hid h1
    clear hok' h1
    obtain ⟨L, HL, S⟩ := st_start w0; have F : True := trivial
    go_enter Tryz.func47, Tryz.ntmps47
    go_upto_region 3 with (first | (refine qbd 4 HL S ?_; clear F S HL; intro gm w L HL S F) | (refine qal HL S zSMx ?_; clear F S HL; intro gr w L HL S F) | refine qLb6 S ?_ | (go_at_call 42; refine (CO _ (HU.out.at_ S) (HV.out.at_ S)).mono ?_; rintro e w ⟨u, v, rfl, T0⟩; have hX := qcl HL S T0; clear F S HL T0; obtain ⟨L, HL, S, F⟩ := hX; obtain ⟨A', cap', rfl, hcap', hmax'⟩ := qSl HL S 0; obtain ⟨A', cap', rfl, hcap', hmax'⟩ := qSl HL S 1) | (refine wpList_empty rfl S _ rfl 3 Tryz.underlying23 infoInt ?_; clear F S; intro g w L hM S; replace HL := qNm HL hM; clear hM; have F := qFc HL S) | (refine qst HL S 3 ?_; clear F S HL; intro w L HL S F))
    clear CO
    go_wp2_with (first | refine qLb6 S ?_ | (go_at_call 43; refine qGr S (C_spec_SharedMatrixValid _ _ _ _ _ _ _ _ _ _ (by exact (Sees.row S qAt).ints) (by exact (Sees.row S qAt).ints) (by exact H1.out)) ?_; clear S; intro w S) | (refine qst HL S 3 ?_; clear F S HL; intro w L HL S F))
    refine ret3 rfl (resCell S HL 3 rfl rfl (by kernel_rfl)) (show _ = _ from rfl) (show _ = _ from rfl) rfl ?_
    exact ⟨_, _, _, rfl, S.openScl (p := 0) (atOf HL rfl)⟩
  | true =>
  have H1 := Lib.hid h1
  rw [h1, Bool.true_and] at hok'
  clear h1
  cases bk with
  | false =>
    clear hok'
    obtain ⟨L, HL, S⟩ := st_start w0; have F : True := trivial
    go_enter Tryz.func47, Tryz.ntmps47
    go_upto_region 3 with (first | (refine qbd 4 HL S ?_; clear F S HL; intro gm w L HL S F) | (refine qal HL S zSMx ?_; clear F S HL; intro gr w L HL S F) | refine qLb6 S ?_ | (go_at_call 42; refine (CO _ (HU.out.at_ S) (HV.out.at_ S)).mono ?_; rintro e w ⟨u, v, rfl, T0⟩; have hX := qcl HL S T0; clear F S HL T0; obtain ⟨L, HL, S, F⟩ := hX; obtain ⟨A', cap', rfl, hcap', hmax'⟩ := qSl HL S 0; obtain ⟨A', cap', rfl, hcap', hmax'⟩ := qSl HL S 1) | (refine wpList_empty rfl S _ rfl 3 Tryz.underlying23 infoInt ?_; clear F S; intro g w L hM S; replace HL := qNm HL hM; clear hM; have F := qFc HL S) | (refine qst HL S 3 ?_; clear F S HL; intro w L HL S F))
    clear CO
    go_wp2_with (first | refine qLb6 S ?_ | (go_at_call 44; refine qPu (CK _) ?_) | (go_at_call 43; refine qGr S (C_spec_SharedMatrixValid _ _ _ _ _ _ _ _ _ _ (by exact (Sees.row S qAt).ints) (by exact (Sees.row S qAt).ints) (by exact H1.out)) ?_; clear S; intro w S) | (refine qst HL S 3 ?_; clear F S HL; intro w L HL S F))
    refine ret3 rfl (resCell S HL 3 rfl rfl (by kernel_rfl)) (show _ = _ from rfl) (show _ = _ from rfl) rfl ?_
    exact ⟨_, _, _, rfl, S.openScl (p := 0) (atOf HL rfl)⟩
  | true =>
    rw [Bool.true_and] at hok'
    subst hok'
    obtain ⟨L, HL, S⟩ := st_start w0; have F : True := trivial
    go_enter Tryz.func47, Tryz.ntmps47
    go_upto_region 3 with (first | (refine qbd 4 HL S ?_; clear F S HL; intro gm w L HL S F) | (refine qal HL S zSMx ?_; clear F S HL; intro gr w L HL S F) | refine qLb6 S ?_ | (go_at_call 42; refine (CO _ (HU.out.at_ S) (HV.out.at_ S)).mono ?_; rintro e w ⟨u, v, rfl, T0⟩; have hX := qcl HL S T0; clear F S HL T0; obtain ⟨L, HL, S, F⟩ := hX; obtain ⟨A', cap', rfl, hcap', hmax'⟩ := qSl HL S 0; obtain ⟨A', cap', rfl, hcap', hmax'⟩ := qSl HL S 1) | (refine wpList_empty rfl S _ rfl 3 Tryz.underlying23 infoInt ?_; clear F S; intro g w L hM S; replace HL := qNm HL hM; clear hM; have F := qFc HL S) | (refine qst HL S 3 ?_; clear F S HL; intro w L HL S F))
    clear CO
    go_wp2_with (first | refine qLb6 S ?_ | (go_at_call 44; refine qPu (CK _) ?_) | (go_at_call 44; refine qPu (CV _) ?_) | (go_at_call 43; refine qGr S (C_spec_SharedMatrixValid _ _ _ _ _ _ _ _ _ _ (by exact (Sees.row S qAt).ints) (by exact (Sees.row S qAt).ints) (by exact H1.out)) ?_; clear S; intro w S) | (refine qst HL S 3 ?_; clear F S HL; intro w L HL S F))
    refine ret3 rfl (resCell S HL 3 rfl rfl (by kernel_rfl)) (show _ = _ from rfl) (show _ = _ from rfl) rfl ?_
    exact ⟨_, _, _, rfl, S.openScl (p := 0) (atOf HL rfl)⟩
theorem C_spec_MapShared (k : Int) (m : SMx) (u v : Value) (seed : Int) (z : Scd) (w0 : World) (hu : Ints w0 u m.a.xs) (hv : Ints w0 v m.b.xs) (n1 : m.a.xs.length ≤ 1048576) (n2 : m.b.xs.length ≤ 1048576) (hz : mapS k m seed = z) :
    Calls Tryz.prog 47 #[.int .i64 k, .agg #[.int .i64 (m).a.r, .int .i64 (m).a.c, u, .int .i64 (m).b.r, .int .i64 (m).b.c, v], .int .i64 seed] w0 (MakesScl w0 z) := by
  subst hz
  cases hok : mapOk k m seed with
  | false => rw [mapS_not hok]; exact C_spec_Map_bad k m.a.r m.a.c m.a.xs m.b.r m.b.c m.b.xs u v seed w0 hu hv n1 n2 hok
  | true =>
    rw [mapS_ok hok]
    simp only [mapOk, Bool.and_eq_true, decide_eq_true_eq] at hok
    obtain ⟨⟨h1, h2⟩, h3⟩ := hok
    obtain ⟨R, C, N, xs, ys, rfl, r1, r2, c1, c2, hRC, hN, hN', hN2, a1, a2⟩ := smx_nat h1
    dsimp only at hu hv ⊢
    rw [hN]
    have HU := Lib.hid hu
    have HV := Lib.hid hv
    obtain ⟨_, A1, k1, rfl, hk1, hm1, _⟩ := hu
    obtain ⟨_, A2, k2, rfl, hk2, hm2, _⟩ := hv
    exact C_spec_Map_good k R C N xs ys A1 A2 k1 k2 seed w0 HU HV h2 r1 r2 c1 c2 hRC hN hN' hN2 a1 a2 h3
end
end Go.Proofs.YtjgfjfjboimgdaaGreat
