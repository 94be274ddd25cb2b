/- MpI MpJ ScJ -/
import Derived.Test.YtjgfjfjboimgdaaGreatY17
namespace Go.Proofs.YtjgfjfjboimgdaaGreat
set_option linter.unusedSimpArgs false
set_option linter.unusedVariables false
set_option linter.unusedSectionVars false
open Go Go.RowKit
set_option maxHeartbeats 8000000
set_option maxRecDepth 20000
section
theorem C_impl_Map_good (k : Int) (R C N : Nat) (xs ys : List Int) (A1 A2 : Option Addr) (k1 k2 : Nat) (seed : Int) (w0 : World)
    (HU : Hid (Ints w0 (.slice A1 xs.length k1) xs)) (HV : Hid (Ints w0 (.slice A2 ys.length k2) ys))
    (hk1 : xs.length ≤ k1) (hm1 : k1 ≤ maxLen) (hk2 : ys.length ≤ k2) (hm2 : k2 ≤ maxLen) (hk : 1 ≤ k ∧ k ≤ 5)
    (r1 : 1 ≤ R) (r2 : R ≤ 5) (c1 : 1 ≤ C) (c2 : C ≤ 5) (hRC : R * C = N) (hN : xs.length = N) (hN' : ys.length = N) (hN2 : N ≤ 25) (a1 : xs.all rv = true) (a2 : ys.all rv = true) (hs : seedOk seed = true) :
    Calls Tryz.prog 102 #[.int .i64 k, .agg #[.int .i64 R, .int .i64 C, .slice A1 xs.length k1, .int .i64 R, .int .i64 C, .slice A2 ys.length k2], .int .i64 seed] w0
      (MakesScl w0 ⟨⟨⟨R, C, tab N (mapA k ⟨⟨R, C, xs⟩, ⟨R, C, ys⟩⟩ seed)⟩, ⟨R, C, tab N (mapB k ⟨⟨R, C, xs⟩, ⟨R, C, ys⟩⟩ seed)⟩⟩, tab N (mapO ⟨⟨R, C, xs⟩, ⟨R, C, ys⟩⟩ seed), seedT seed N⟩) := by
  unfold MakesScl
  dsimp only
  rw [tab_length, tab_length, tab_length]
  rw [hN] at HU hk1
  rw [hN'] at HV hk2
  rw [hN, hN']
  have hl : likeMx ⟨R, C, xs⟩ ⟨R, C, ys⟩ = true := by
    simp only [likeMx, Bool.and_eq_true, decide_eq_true_eq]
    exact ⟨⟨⟨Mx.ok_of r1 r2 c1 c2 (by rw [hN, hRC]) a1, Mx.ok_of r1 r2 c1 c2 (by rw [hN', hRC]) a2⟩, trivial⟩, trivial⟩
  have HLK := Lib.hid hl
  have CV := fun w => C_seedValid seed w
  rw [hs] at CV
  have CK := fun w => C_functionKnown k true w (by simp [hk.1, hk.2])
  have CF := fun w => C_impl_FunctionValues k hk w
  have hN0 : 0 < N := by rw [← hRC]; exact Nat.mul_pos (by omega) (by omega)
  have CE := fun w => C_emptyShared R C N w hRC hN2
  unfold MakesSMx at CE
  rw [tab_length] at CE
  obtain ⟨m, hm⟩ : ∃ m, SMx.mk ⟨R, C, xs⟩ ⟨R, C, ys⟩ = m := ⟨_, rfl⟩
  rw [hm]
  have hsh : ∀ q, shAt m q = ⟨xs.getD q 0, ys.getD q 0⟩ := fun q => by rw [← hm]; rfl
  have HSH := Lib.hid hsh
  have HS := Lib.hid hs
  have HN := Lib.hid hN
  have HN' := Lib.hid hN'
  have HA1 := Lib.hid a1
  have HA2 := Lib.hid a2
  clear hl hs hm hsh hN hN' hRC a1 a2 hk
  obtain ⟨L, HL, S⟩ := st_start w0; have F : True := trivial
  go_enter Tryz.func102, Tryz.ntmps102
  go_upto_region 1 with (first | (refine qbd 4 HL S ?_; clear F S HL; intro gm w L HL S F) | (refine qal HL S zSMx ?_; clear F S HL; intro gr w L HL S F))
  go_upto_region 3 with (first | (go_at_call 144; refine qPu (CK _) ?_) | (go_at_call 52; refine qPu (CV _) ?_) | (go_at_call 72; refine qGr S (C_impl_SharedMatrixValid _ _ _ _ _ _ _ _ _ _ (by exact HU.out.at_ S) (by exact HV.out.at_ S) (by exact HLK.out)) ?_; clear S; intro w S))
  go_upto_region 4 with (first | (go_at_call 145; refine (CF _).mono ?_; rintro e w ⟨u, rfl, T0⟩; have hX := qcl HL S T0; clear F S HL T0; obtain ⟨L, HL, S, F⟩ := hX))
  obtain ⟨gf, cf, rfl, hcf, hmf⟩ := S.rowAt (p := 0) (atOf HL rfl) (by omega)
  go_upto_region 5 with (first | (refine qal HL S zSMx ?_; clear F S HL; intro g10 w L HL S F) | (refine qst HL S 0 ?_; clear F S HL; intro w L HL S F) | (go_at_call 146; refine (CE _).mono ?_; rintro e w ⟨u, v, rfl, T0⟩; have hX := qcl HL S T0; clear F S HL T0; obtain ⟨L, HL, S, F⟩ := hX; obtain ⟨A', cap', rfl, hcap', hmax'⟩ := qSl HL S 0; obtain ⟨A', cap', rfl, hcap', hmax'⟩ := qSl HL S 1))
  obtain ⟨gv, cv, ev, hcv, hmv⟩ := S.rowAt (p := 1) (atOf HL rfl) hN0
  obtain ⟨gu, cu, eu, hcu, hmu⟩ := S.rowAt (p := 2) (atOf HL rfl) hN0
  rw [ev, eu] at HL F
  (try rw [ev, eu])
  clear ev eu CE CV CK CF
  go_upto_region 6 with (at_make; refine wpList_make rfl S _ _ _ rfl 3 _ 1 8 Tryz.underlying23 infoInt _ N rfl rfl rfl (by omega) (by simp only [maxLen]; omega) ?_; clear F S; intro g w L hM S; replace HL := qNm HL hM; clear hM; have F := qFc HL S)
  obtain ⟨go, hgo⟩ : ∃ go, g = go := ⟨_, rfl⟩
  subst hgo
  go_wp2
  go_loopw [47, 2] (fun i sd wr => ∃ (q : Nat) (L : List Ent), q ≤ N ∧ i = .int .i64 q ∧ sd = .int .i64 (seedT seed q) ∧ Hid (L = [.row 3 1 (.slice (some ⟨g, 0, none⟩) N N) N (ints (tab N fun i => if i < q then mapO m seed i else 0)), .box g10 32 [.int .i64 R, .int .i64 C, .slice (some ⟨gu, 0, none⟩) N cu, .int .i64 R, .int .i64 C, .slice (some ⟨gv, 0, none⟩) N cv], .row 3 1 (.slice (some ⟨gv, 0, none⟩) N cv) N (ints (tab N fun i => if i < q then mapB k m seed i else 0)), .row 3 1 (.slice (some ⟨gu, 0, none⟩) N cu) N (ints (tab N fun i => if i < q then mapA k m seed i else 0)), .row 3 1 (.slice (some ⟨gf, 0, none⟩) 4096 cf) 4096 (ints (valsOf k)), .box gr 32 [.int .i64 0, .int .i64 0, .slice none 0 0, .int .i64 0, .int .i64 0, .slice none 0 0], .box gm 32 [.int .i64 R, .int .i64 C, .slice A1 N k1, .int .i64 R, .int .i64 C, .slice A2 N k2]]) ∧ St w0 wr L) (fun i _ _ => N - (intOf i).toNat)
  case atStart => exact ⟨0, L, Nat.zero_le _, rfl, rfl, Lib.hid (by rw [fil_zero (mapO m seed) N, fil_zero (mapA k m seed) N, fil_zero (mapB k m seed) N]; have h := HL.out; rw [ints_tab_zero N] at h; exact h), S⟩
  case round =>
    clear F HL S
    obtain ⟨q, L, hq, rfl, rfl, HL, S⟩ := hrel
    have F := factsAll HL S
    simp only [factsOf, cellsFrom, and_true, true_and, Nat.reduceAdd] at F
    by_cases hlt : q < N
    · have hsd := seedT_ok HS.out q
      have CM := fun w h => C_impl_MakeTable (valsOf k) (.slice (some ⟨gf, 0, none⟩) 4096 cf) (seedT seed q) w h (valsOf_len k) (valsOf_all k) hsd
      unfold MakesTab at CM
      have hnx : tabNext (seedT seed q) = seedT seed (q + 1) := rfl
      rw [hnx] at CM
      have hok1 : Sh.ok ⟨xs.getD q 0, ys.getD q 0⟩ = true := sh_ok2 (getD_rv HA1.out q) (getD_rv HA2.out q)
      have hob := openAt_bd (x := shAt m q) (by rw [HSH.out]; exact hok1) (seedT seed q)
      obtain ⟨o, ho, ho2⟩ : ∃ o : Nat, mapO m seed q = (o : Int) ∧ o < 4096 := ⟨(openAt (shAt m q) (seedT seed q)).toNat, by show openAt (shAt m q) (seedT seed q) = _; omega, by omega⟩
      have hoo : openAt (shAt m q) (seedT seed q) = (o : Int) := ho
      have hx : (firstAt (seedT seed q)).getD o 0 = mapA k m seed q := by
        simp only [mapA, lookAt]
        rw [hoo, Int.toNat_natCast]
      have hy : (secondAt (valsOf k) (seedT seed q)).getD o 0 = mapB k m seed q := by
        simp only [mapB, lookAt]
        rw [hoo, Int.toNat_natCast]
      have hadd : addR (joinS ⟨xs.getD q 0, ys.getD q 0⟩) (joinS (shiftAt (seedT seed q))) = (o : Int) := by
        rw [← hoo, HSH.out]
        rfl
      have hok2 := shiftAt_ok (seedT seed q)
      have lf := firstAt_len (seedT seed q)
      have ls := secondAt_len (valsOf k) (seedT seed q)
      have af := firstAt_all (seedT seed q)
      have az := secondAt_all (valsOf_all k) (seedT seed q)
      have ef := fil_set (mapA k m seed) N q
      have es := fil_set (mapB k m seed) N q
      have eo := fil_set (mapO m seed) N q
      rw [ho] at eo
      generalize firstAt (seedT seed q) = fs at *
      generalize secondAt (valsOf k) (seedT seed q) = ss at *
      generalize shiftAt (seedT seed q) = sf at *
      obtain ⟨pa, pb⟩ := sf
      generalize mapA k m seed q = za at hx ef
      generalize mapB k m seed q = zb at hy es
      dsimp only at CM
      obtain ⟨x, hxv⟩ : ∃ x, xs.getD q 0 = x := ⟨_, rfl⟩
      obtain ⟨y, hyv⟩ : ∃ y, ys.getD q 0 = y := ⟨_, rfl⟩
      rw [hxv, hyv] at hok1 hadd
      have CU := fun u v w hu hv => C_impl_UseTable x y pa pb fs ss u v o za zb w hok1 hok2 hu hv lf ls af az hadd ho2 hx hy
      have CSA := fun w h h' => C_sharesAt' R C xs R C ys (.slice A1 N k1) (.slice A2 N k2) q x y w h h' (by rw [HN.out]; exact hlt) (by rw [HN'.out]; exact hlt) hxv hyv
      have LF := Lib.hid lf
      have LS := Lib.hid ls
      have EF := Lib.hid ef
      have ES := Lib.hid es
      have EO := Lib.hid eo
      obtain ⟨XA, hXA⟩ : ∃ X, (tab N fun i => if i < q then mapA k m seed i else 0) = X := ⟨_, rfl⟩
      obtain ⟨XB, hXB⟩ : ∃ X, (tab N fun i => if i < q then mapB k m seed i else 0) = X := ⟨_, rfl⟩
      obtain ⟨XO, hXO⟩ : ∃ X, (tab N fun i => if i < q then mapO m seed i else 0) = X := ⟨_, rfl⟩
      rw [hXA, hXB, hXO] at HL
      rw [hXA] at EF
      rw [hXB] at ES
      rw [hXO] at EO
      obtain ⟨VL, hVL⟩ : ∃ V, valsOf k = V := ⟨_, rfl⟩
      rw [hVL] at HL CM
      have HVL := Lib.hid hVL
      have hVlen : VL.length = 4096 := hVL ▸ valsOf_len k
      have HVlen := Lib.hid hVlen
      generalize hs0 : seedT seed q = s0 at CM ⊢
      generalize hs1 : seedT seed (q + 1) = s1 at CM
      have HS1 := Lib.hid hs1
      clear hsd hnx hob ho hoo hx hy hadd hok1 hok2 lf ls af az ef es eo hxv hyv hXA hXB hXO hVL hVlen hs0 hs1
      go_upto_region 11 with (first | (refine qal HL S zTable ?_; clear F S HL; intro g13 w L HL S F) | (go_at_call 147; refine (CM _ (by unfold Ints; rw [HVlen.out]; exact (Sees.row S qAt))).mono ?_; rintro e w ⟨u1, v1, rfl, T0⟩; have hX := qcl HL S T0; clear F S HL T0; obtain ⟨L, HL, S, F⟩ := hX; obtain ⟨Av, cv1, rfl, hcv1, hmv1⟩ := qSl HL S 0; obtain ⟨Au, cu1, rfl, hcu1, hmu1⟩ := qSl HL S 1) | (refine qst HL S 2 ?_; clear F S HL; intro w L HL S F))
      have HL0 := HL; have F0 := F; refine wp_region_tree (S := fun w' => St w0 w' L) (.calm 0 (.calm 1 (.calm 3 (.act 2 (.act 4 (qcs 5 4 (.act 9 (.act 10 (.calm 11 (.calm 12 .fin)) .stop) .stop)) (.act 9 (.act 4 (qcs 5 4 (.act 10 (.calm 11 (.calm 12 .fin)) .stop)) .stop) .stop)) (.act 9 (.act 2 (.act 4 (qcs 5 4 (.act 10 (.calm 11 (.calm 12 .fin)) .stop)) .stop) .stop) .stop))))) (by kernel_rfl) (by kernel_rfl) (by kernel_rfl) (by intro c a d v w h; cases d <;> exact h) ?_; dsimp only [qcs, Nat.reduceAdd]; replace S := S.drew
      repeat' (first | refine qCa ?_ | refine qAn ?_ | refine qSk ?_ | exact tree_stop | (refine tree_act rfl rfl ?_ ?_) | (intro K hK; (refine qaw HL S zSh ?_; clear F S HL; intro g w L HL S F); (refine qKo hK ?_; clear hK K)) | (intro K hK; (refine qsw HL S 0 ?_; clear F S HL; intro w L HL S F); (refine qKo hK ?_; clear hK K)) | (intro K hK; (refine qsw HL S 1 ?_; clear F S HL; intro w L HL S F); (refine qKo hK ?_; clear hK K)) | (intro K hK; go_wp2_with (first | (go_at_call 149; refine qGr S (CSA _ (HU.out.at_ S) (HV.out.at_ S)) ?_; clear S; intro w S) | (go_at_call 148; refine qGr S (CU _ _ _ (by unfold Ints; rw [LF.out]; exact (Sees.row S qAt)) (by unfold Ints; rw [LS.out]; exact (Sees.row S qAt))) ?_; clear S; intro w S)); (refine qKo hK ?_; clear hK K)))
      all_goals
        refine tree_fin ?_
        clear HL0 F0
        clear CU CSA CM
        go_wp2_with (first | (go_at_call 150; refine (C_put L _ _ _ _ _ _ _ _ _ _ _ _ _ _ _ _ w0 _ S (atOf HL (p := 7) rfl) (atOf HL (p := 6) rfl) (by decide) hlt).mono ?_; rintro e w ⟨⟨uw, rfl⟩, T0⟩; obtain ⟨L, hM, T⟩ := st_name T0; clear T0; clear F S; replace HL := qNm HL hM; clear hM; have S := T; clear T; have F := qFc HL S) | (refine wpList_store_row rfl S _ _ _ rfl 4 _ _ _ _ _ _ _ (atOf HL rfl) rfl (.int .i64 o) rfl (by kernel_rfl) rfl (by omega) ?_; clear F S; intro w L hM S; replace HL := qNm HL hM; clear hM; have F := qFc HL S))
        go_roundw
        case rel =>
          have e1 : ints (XA.set q za) = ints (tab N fun i => if i < q + 1 then mapA k m seed i else 0) := congrArg ints EF.out
          have e2 : ints (XB.set q zb) = ints (tab N fun i => if i < q + 1 then mapB k m seed i else 0) := congrArg ints ES.out
          have e3 : (ints XO).set q (.int .i64 o) = ints (tab N fun i => if i < q + 1 then mapO m seed i else 0) := by rw [← EO.out, ints_set]
          rw [HL.out, e1, e2, e3, ← HVL.out] at S
          exact ⟨q + 1, _, by omega, by go_num, by rw [HS1.out], Lib.hid rfl, S.sub (by repeat (first | exact .refl _ | exact List.nil_sublist _ | apply List.Sublist.cons_cons | apply List.Sublist.cons))⟩
        case measure => simp [intOf]; omega
    · obtain rfl : q = N := by omega
      go_wp2_with (first | (refine qst HL S 5 ?_; clear F S HL; intro w L HL S F))
      refine ret3 rfl (resCell S HL 5 rfl rfl (by kernel_rfl)) (show _ = _ from rfl) (show _ = _ from rfl) rfl ?_
      refine ⟨_, _, _, rfl, ?_⟩
      rw [fil_full, fil_full, fil_full] at HL
      exact (by rw [HL.out] at S; exact S.sub (by repeat (first | exact .refl _ | exact List.nil_sublist _ | apply List.Sublist.cons_cons | apply List.Sublist.cons)))
end
section
theorem C_impl_Map_bad (k : Int) (r c : Int) (xs : List Int) (r' c' : Int) (ys : List Int) (u v : Value) (seed : Int) (z : Scd) (w0 : World)
    (hu : Ints w0 u xs) (hv : Ints w0 v ys) (hok : mapOk k ⟨⟨r, c, xs⟩, ⟨r', c', ys⟩⟩ seed = false) (hz0 : z = ⟨SMx.zero, [], 0⟩) :
    Calls Tryz.prog 102 #[.int .i64 k, .agg #[.int .i64 r, .int .i64 c, u, .int .i64 r', .int .i64 c', v], .int .i64 seed] w0 (MakesScl w0 z) := by
  subst hz0
  unfold MakesScl
  have HU := Lib.hid hu
  have HV := Lib.hid hv
  obtain ⟨_, A1, k1, rfl, hk1, hm1, _⟩ := hu
  obtain ⟨_, A2, k2, rfl, hk2, hm2, _⟩ := hv
  have CV := fun w => C_seedValid seed w
  have hok' : (likeMx ⟨r, c, xs⟩ ⟨r', c', ys⟩ && (decide (1 ≤ k) && decide (k ≤ 5)) && seedOk seed) = false := hok
  clear hok
  cases h0 : (decide (1 ≤ k) && decide (k ≤ 5)) with
  | false =>
    have CK := fun w => C_functionKnown k false w h0
    clear hok' h0
    obtain ⟨L, HL, S⟩ := st_start w0; have F : True := trivial
    go_enter Tryz.func102, Tryz.ntmps102
    go_upto_region 1 with (first | (refine qbx HL S ?_; clear F S HL; intro g w L HL S F) | (refine qal HL S zSMx ?_; clear F S HL; intro g w L HL S F))
    go_upto_region 2 with (first | (go_at_call 144; refine qPu (CK _) ?_))
    go_wp2_with (first | (refine qst HL S 0 ?_; clear F S HL; intro w L HL S F))
    refine ret3 rfl (resCell S HL 0 rfl rfl (by kernel_rfl)) (show _ = _ from rfl) (show _ = _ from rfl) rfl ?_
    exact ⟨_, _, _, rfl, S.nilScl _⟩
  | true =>
    have CK := fun w => C_functionKnown k true w h0
    rw [h0] at hok'
    clear h0
    cases h1 : likeMx ⟨r, c, xs⟩ ⟨r', c', ys⟩ with
    | false =>
      clear hok'
      obtain ⟨L, HL, S⟩ := st_start w0; have F : True := trivial
      go_enter Tryz.func102, Tryz.ntmps102
      go_upto_region 1 with (first | (refine qbx HL S ?_; clear F S HL; intro g w L HL S F) | (refine qal HL S zSMx ?_; clear F S HL; intro g w L HL S F))
      go_upto_region 2 with (first | (go_at_call 144; refine qPu (CK _) ?_) | (go_at_call 72; refine qGr S (C_impl_SharedMatrixValid _ _ _ _ _ _ _ _ _ _ (by exact HU.out.at_ S) (by exact HV.out.at_ S) (by exact h1)) ?_; clear S; intro w S))
      go_wp2_with (first | (refine qst HL S 0 ?_; clear F S HL; intro w L HL S F))
      refine ret3 rfl (resCell S HL 0 rfl rfl (by kernel_rfl)) (show _ = _ from rfl) (show _ = _ from rfl) rfl ?_
      exact ⟨_, _, _, rfl, S.nilScl _⟩
    | true =>
      rw [h1] at hok'
      have hs : seedOk seed = false := by simpa using hok'
      rw [hs] at CV
      clear hok' hs
      obtain ⟨L, HL, S⟩ := st_start w0; have F : True := trivial
      go_enter Tryz.func102, Tryz.ntmps102
      go_upto_region 1 with (first | (refine qbx HL S ?_; clear F S HL; intro g w L HL S F) | (refine qal HL S zSMx ?_; clear F S HL; intro g w L HL S F))
      go_upto_region 2 with (first | (go_at_call 144; refine qPu (CK _) ?_) | (go_at_call 52; refine qPu (CV _) ?_) | (go_at_call 72; refine qGr S (C_impl_SharedMatrixValid _ _ _ _ _ _ _ _ _ _ (by exact HU.out.at_ S) (by exact HV.out.at_ S) (by exact h1)) ?_; clear S; intro w S))
      go_wp2_with (first | (refine qst HL S 0 ?_; clear F S HL; intro w L HL S F))
      refine ret3 rfl (resCell S HL 0 rfl rfl (by kernel_rfl)) (show _ = _ from rfl) (show _ = _ from rfl) rfl ?_
      exact ⟨_, _, _, rfl, S.nilScl _⟩
theorem C_impl_MapShared (k : Int) (r c : Int) (xs : List Int) (r' c' : Int) (ys : List Int) (u v : Value) (seed : Int) (z : Scd) (w0 : World)
    (hu : Ints w0 u xs) (hv : Ints w0 v ys) (hz : mapS k ⟨⟨r, c, xs⟩, ⟨r', c', ys⟩⟩ seed = z) :
    Calls Tryz.prog 102 #[.int .i64 k, .agg #[.int .i64 r, .int .i64 c, u, .int .i64 r', .int .i64 c', v], .int .i64 seed] w0 (MakesScl w0 z) := by
  cases hok : mapOk k ⟨⟨r, c, xs⟩, ⟨r', c', ys⟩⟩ seed with
  | false => exact C_impl_Map_bad k r c xs r' c' ys u v seed z w0 hu hv hok (hz ▸ mapS_not hok)
  | true =>
    rw [mapS_ok hok] at hz
    have h : (likeMx ⟨r, c, xs⟩ ⟨r', c', ys⟩ && (decide (1 ≤ k) && decide (k ≤ 5)) && seedOk seed) = true := hok
    simp only [Bool.and_eq_true, decide_eq_true_eq] at h
    obtain ⟨⟨h1, h2⟩, h3⟩ := h
    obtain ⟨R, C, N, rfl, rfl, rfl, rfl, r1, r2, c1, c2, hRC, hN, hN', hN2, a1, a2⟩ := like_parts h1
    dsimp only at hz
    rw [hN] at hz
    subst hz
    have HU := Lib.hid hu
    have HV := Lib.hid hv
    obtain ⟨_, A1, k1, rfl, hk1, hm1, _⟩ := hu
    obtain ⟨_, A2, k2, rfl, hk2, hm2, _⟩ := hv
    exact C_impl_Map_good k R C N xs ys A1 A2 k1 k2 seed w0 HU HV hk1 hm1 hk2 hm2 h2 r1 r2 c1 c2 hRC hN hN' hN2 a1 a2 h3
end
section
theorem C_impl_Scale_good (N2 C N : Nat) (r' c' rc' cc' : Int) (xs ys us vs : List Int) (A1 A2 A3 A4 : Option Addr) (k1 k2 k3 k4 : Nat) (seed : Int) (Z : Scl) (w0 : World)
    (HU : Hid (Ints w0 (.slice A1 xs.length k1) xs)) (HV : Hid (Ints w0 (.slice A2 ys.length k2) ys)) (HP : Hid (Ints w0 (.slice A3 us.length k3) us)) (HQ : Hid (Ints w0 (.slice A4 vs.length k4) vs))
    (hk1 : xs.length ≤ k1) (hm1 : k1 ≤ maxLen) (hk2 : ys.length ≤ k2) (hm2 : k2 ≤ maxLen) (hk3 : us.length ≤ k3) (hm3 : k3 ≤ maxLen) (hk4 : vs.length ≤ k4) (hm4 : k4 ≤ maxLen)
    (r1 : 1 ≤ N2) (r2 : N2 ≤ 5) (c1 : 1 ≤ C) (c2 : C ≤ 5) (hRC : N2 * C = N) (hN : xs.length = N) (hN' : ys.length = N) (hN2 : N ≤ 25) (a1 : xs.all rv = true) (a2 : ys.all rv = true)
    (hM : us.length = N2) (hM' : vs.length = N2) (a3 : us.all rv = true) (a4 : vs.all rv = true) (h3 : seedOk seed = true)
    (h1 : likeMx ⟨N2, C, xs⟩ ⟨r', c', ys⟩ = true) (h2 : likeMx ⟨N2, 1, us⟩ ⟨rc', cc', vs⟩ = true) (hZ : Scl.mk xs ys us vs C seed = Z) :
    Calls Tryz.prog 106 #[.agg #[.int .i64 N2, .int .i64 C, .slice A1 xs.length k1, .int .i64 r', .int .i64 c', .slice A2 ys.length k2], .agg #[.int .i64 N2, .int .i64 1, .slice A3 us.length k3, .int .i64 rc', .int .i64 cc', .slice A4 vs.length k4], .int .i64 seed] w0 (MakesScl w0 ⟨⟨⟨N2, C, Z.fir N⟩, ⟨N2, C, Z.sec N⟩⟩, Z.opened N, seedAt seed (5 * N)⟩) := by
  unfold MakesScl
  dsimp only
  have CV := fun w => C_seedValid seed w
  have H1 := Lib.hid h1
  have H2 := Lib.hid h2
  have hZx : ∀ k, Z.x k = ⟨xs.getD k 0, ys.getD k 0⟩ := by intro k; rw [← hZ]; rfl
  have hZy : ∀ k, Z.y k = ⟨us.getD (k / C) 0, vs.getD (k / C) 0⟩ := by intro k; rw [← hZ]; rfl
  have hZt : ∀ k, Z.t k = triAt (seedAt seed (5 * k)) := by intro k; rw [← hZ]; rfl
  clear hZ h1 h2
  have HX := Lib.hid hZx
  have HY := Lib.hid hZy
  have HT := Lib.hid hZt
  have HA1 := Lib.hid a1
  have HA2 := Lib.hid a2
  have HA3 := Lib.hid a3
  have HA4 := Lib.hid a4
  have HS := Lib.hid h3
  have hN0 : 0 < N := by rw [← hRC]; exact Nat.mul_pos (by omega) (by omega)
  have HNC := Lib.hid hRC
  rw [h3] at CV
  clear hZx hZy hZt a1 a2 a3 a4 h3 hRC
  have HN := Lib.hid hN
  have HN' := Lib.hid hN'
  have HM := Lib.hid hM
  have HM' := Lib.hid hM'
  have CE := fun w => C_emptyShared N2 C N w HNC.out hN2
  unfold MakesSMx at CE
  rw [tab_length] at CE
  clear hN hN' hM hM'
  obtain ⟨L, HL, S⟩ := st_start w0; have F : True := trivial
  go_enter Tryz.func106, Tryz.ntmps106
  go_upto_region 1 with (first | (refine qbd 3 HL S ?_; clear F S HL; intro gm w L HL S F) | (refine qbd 4 HL S ?_; clear F S HL; intro gc w L HL S F) | (refine qal HL S zSMx ?_; clear F S HL; intro gr w L HL S F))
  go_upto_region 2 with (first | (go_at_call 52; refine qPu (CV _) ?_) | (go_at_call 72; refine qGr S (C_impl_SharedMatrixValid _ _ _ _ _ _ _ _ _ _ (by first | exact HU.out.at_ S | exact HP.out.at_ S) (by first | exact HV.out.at_ S | exact HQ.out.at_ S) (by first | exact H1.out | exact H2.out)) ?_; clear S; intro w S))
  go_upto_region 4 with (first | (refine qal HL S zSMx ?_; clear F S HL; intro g9 w L HL S F) | (refine qst HL S 0 ?_; clear F S HL; intro w L HL S F) | (go_at_call 146; refine (CE _).mono ?_; rintro e w ⟨u, v, rfl, T0⟩; have hX := qcl HL S T0; clear F S HL T0; obtain ⟨L, HL, S, F⟩ := hX; obtain ⟨A', cap', rfl, hcap', hmax'⟩ := qSl HL S 0; obtain ⟨A', cap', rfl, hcap', hmax'⟩ := qSl HL S 1))
  obtain ⟨gv, cv, ev, hcv, hmv⟩ := S.rowAt (p := 1) (atOf HL rfl) hN0
  obtain ⟨gu, cu, eu, hcu, hmu⟩ := S.rowAt (p := 2) (atOf HL rfl) hN0
  rw [ev, eu] at HL
  clear ev eu CE CV hcap' hmax'
  rw [HL.out] at S
  replace S := S.nilRow 3 1
  clear HL F
  obtain ⟨L, hM, T⟩ := st_name S; clear S; have S := T; clear T; have HL := Lib.hid hM; clear hM; have F := qFc HL S
  go_upto_region 5 with fail
  go_wp2
  go_loopw [2, 10, 56] (fun sd o i wr => ∃ (k : Nat) (L : List Ent), k ≤ N ∧ i = .int .i64 k ∧ sd = .int .i64 (seedAt seed (5 * k)) ∧ Hid (L = [.row 3 1 o (2 * k) (ints (Z.opened k)), .box g9 32 [.int .i64 N2, .int .i64 C, .slice (some ⟨gu, 0, none⟩) N cu, .int .i64 N2, .int .i64 C, .slice (some ⟨gv, 0, none⟩) N cv], .row 3 1 (.slice (some ⟨gv, 0, none⟩) N cv) N (ints (Z.secTo N k)), .row 3 1 (.slice (some ⟨gu, 0, none⟩) N cu) N (ints (Z.firTo N k)), .box gr 32 [.int .i64 0, .int .i64 0, .slice none 0 0, .int .i64 0, .int .i64 0, .slice none 0 0], .box gc 32 [.int .i64 N2, .int .i64 1, .slice A3 us.length k3, .int .i64 rc', .int .i64 cc', .slice A4 vs.length k4], .box gm 32 [.int .i64 N2, .int .i64 C, .slice A1 xs.length k1, .int .i64 r', .int .i64 c', .slice A2 ys.length k2]]) ∧ St w0 wr L) (fun _ _ i _ => N - (intOf i).toNat)
  case atStart =>
    refine ⟨0, L, Nat.zero_le _, rfl, rfl, Lib.hid ?_, S⟩
    rw [HL.out, Scl.secTo, Scl.firTo, to_zero, to_zero]
    rfl
  case round =>
    clear F HL S
    obtain ⟨k, L, hk, rfl, rfl, HL, S⟩ := hrel
    have F := factsAll HL S
    simp only [factsOf, cellsFrom, and_true, true_and, Nat.reduceAdd] at F
    have hle := HN.out
    by_cases hlt : k < N
    · clear hle
      have hlx : k < xs.length := by rw [HN.out]; exact hlt
      have hsd : seedOk (seedAt seed (5 * k)) = true := by have := seedAt_pos (seedOk_bd HS.out) (5 * k); simp [seedOk, this]
      have CM := fun w => C_impl_MakeTriple (seedAt seed (5 * k)) w hsd
      rw [seedAt_add, ← HT.out k] at CM
      have htok : triOk (Z.t k) = true := by rw [HT.out]; exact triAt_ok _
      have hP : Z.p k = mulV (Z.t k) (Z.d k) (Z.e k) := rfl
      have hD : dOf (Z.x k) (Z.t k) = Z.d k := rfl
      have hE : eOf (Z.y k) (Z.t k) = Z.e k := rfl
      rw [HX.out] at hD
      rw [HY.out] at hE
      obtain ⟨j, hj⟩ : ∃ j, k / C = j := ⟨_, rfl⟩
      have hjl : j < N2 := by rw [← hj]; exact Nat.div_lt_of_lt_mul (by rw [Nat.mul_comm, HNC.out]; exact hlt)
      rw [hj] at hE
      have w1 : Int.tdiv (k : Int) (C : Int) = (j : Int) := by rw [tdiv_nat, hj]
      have w2 : IntKind.i64.wrap (j : Int) = (j : Int) := wrap_nat rfl (by omega)
      have g1 := sh_ok2 (all_rv HA1.out (k := k) (by rw [HN.out]; exact hlt)) (all_rv HA2.out (k := k) (by rw [HN'.out]; exact hlt))
      have g2 := sh_ok2 (all_rv HA3.out (k := j) (by rw [HM.out]; exact hjl)) (all_rv HA4.out (k := j) (by rw [HM'.out]; exact hjl))
      generalize ex0 : xs.getD k 0 = x0 at g1 hD
      generalize ex1 : ys.getD k 0 = x1 at g1 hD
      generalize ey0 : us.getD j 0 = y0 at g2 hE
      generalize ey1 : vs.getD j 0 = y1 at g2 hE
      have X0 := Lib.hid ex0
      have X1 := Lib.hid ex1
      have Y0 := Lib.hid ey0
      have Y1 := Lib.hid ey1
      have ef := to_set (fun q => (Z.p q).a) N k
      have es := to_set (fun q => (Z.p q).b) N k
      have eo : Z.opened (k + 1) = Z.opened k ++ [Z.d k, Z.e k] := rfl
      generalize Z.t k = t at CM htok hP hD hE
      generalize Z.d k = dd at hP hD eo
      generalize Z.e k = ee at hP hE eo
      generalize Z.p k = pp at hP ef es
      obtain ⟨pa, pb⟩ := pp
      obtain ⟨⟨t0, t1⟩, ⟨t2, t3⟩, ⟨t4, t5⟩⟩ := t
      dsimp only at ef es
      have CMU := fun w => C_impl_MulV x0 x1 y0 y1 t0 t1 t2 t3 t4 t5 dd ee pa pb w g1 g2 htok hD hE hP.symm
      unfold MakesMul at CMU
      unfold triL at CM
      dsimp only at CM
      have EF := Lib.hid ef
      have ES := Lib.hid es
      have EO := Lib.hid eo
      have HK := Lib.hid (And.intro (show k < xs.length by rw [HN.out]; exact hlt) (show k < ys.length by rw [HN'.out]; exact hlt))
      have HJ := Lib.hid (And.intro (show j < us.length by rw [HM.out]; exact hjl) (show j < vs.length by rw [HM'.out]; exact hjl))
      have hC0 : ¬ C = 0 := by omega
      clear ex0 ex1 ey0 ey1 ef es eo hj hsd htok hP hD hE g1 g2
      generalize seedAt seed (5 * k) = s0 at CM ⊢
      go_upto_region 10 with (first | (refine qal HL S zTri ?_; clear F S HL; intro g12 w L HL S F) | (go_at_call 152; refine qGr S (CM _) ?_; clear S; intro w S) | (refine qst HL S 0 ?_; clear F S HL; intro w L HL S F))
      have HL0 := HL; have F0 := F; refine wp_region_tree (S := fun w' => St w0 w' L) (.calm 0 (.calm 1 (qcs 3 6 (.calm 10 (.act 2 (.act 9 (.act 11 (qcs 12 4 (.act 16 (.act 17 (.calm 18 (.calm 19 .fin)) .stop) .stop)) (.act 16 (.act 11 (qcs 12 4 (.act 17 (.calm 18 (.calm 19 .fin)) .stop)) .stop) .stop)) (.act 16 (.act 9 (.act 11 (qcs 12 4 (.act 17 (.calm 18 (.calm 19 .fin)) .stop)) .stop) .stop) .stop)) (.act 16 (.act 2 (.act 9 (.act 11 (qcs 12 4 (.act 17 (.calm 18 (.calm 19 .fin)) .stop)) .stop) .stop) .stop) .stop)))))) (by kernel_rfl) (by kernel_rfl) (by kernel_rfl) (by intro c a d v w h; cases d <;> exact h) ?_; dsimp only [qcs, Nat.reduceAdd]; replace S := S.drew
      repeat' (first | refine qCa ?_ | refine qAn ?_ | refine qSk ?_ | exact tree_stop | (refine tree_act rfl rfl ?_ ?_) | (intro K hK; (refine qaw HL S zSh ?_; clear F S HL; intro g w L HL S F); (refine qKo hK ?_; clear hK K)) | (intro K hK; (refine qsw HL S 0 ?_; clear F S HL; intro w L HL S F); (refine qKo hK ?_; clear hK K)) | (intro K hK; (refine qsw HL S 1 ?_; clear F S HL; intro w L HL S F); (refine qKo hK ?_; clear hK K)) | (intro K hK; go_wp2_with (first | (go_at_call 149; refine qGr S (C_sharesAt' _ _ _ _ _ _ _ _ _ _ _ _ (by first | exact HU.out.at_ S | exact HP.out.at_ S) (by first | exact HV.out.at_ S | exact HQ.out.at_ S) (by first | exact HK.out.1 | exact HJ.out.1) (by first | exact HK.out.2 | exact HJ.out.2) (by first | exact X0.out | exact Y0.out) (by first | exact X1.out | exact Y1.out)) ?_; clear S; intro w S) | (go_at_call 153; refine (CMU _).mono ?_; rintro e w ⟨uo, rfl, T0⟩; have hX := qcl HL S T0; clear F S HL T0; obtain ⟨L, HL, S, F⟩ := hX)); (refine qKo hK ?_; clear hK K)))
      all_goals
        refine tree_fin ?_
        clear HL0 F0
        clear CMU CM
        go_wp2_with (first | (go_at_call 150; refine (C_put L _ _ _ _ _ _ _ _ _ _ _ _ _ _ _ _ w0 _ S qAt qAt (by decide) hlt).mono ?_; rintro e w ⟨⟨uw, rfl⟩, T0⟩; obtain ⟨L, hM, T⟩ := st_name T0; clear T0; clear F S; replace HL := qNm HL hM; clear hM; have S := T; clear T; have F := qFc HL S) | ((refine wpList_append_see rfl S _ _ _ rfl _ 3 _ 1 8 Tryz.underlying23 infoInt rfl (by omega) _ _ _ rfl qAt _ _ _ rfl (by exact (Sees.row S qAt)) (ints_one _) (by simp only [maxLen]; omega) (by omega) ?_; clear F S; intro u' w L hM S; replace HL := qNm HL hM; clear hM; have F := qFc HL S)))
        go_roundw
        case rel =>
          have e1 : ints ((Z.firTo N k).set k pa) = ints (Z.firTo N (k + 1)) := congrArg ints EF.out
          have e2 : ints ((Z.secTo N k).set k pb) = ints (Z.secTo N (k + 1)) := congrArg ints ES.out
          have e3 : ints (Z.opened k) ++ ints [dd, ee] = ints (Z.opened (k + 1)) := by rw [EO.out, ints_append]
          rw [HL.out, e1, e2, e3] at S
          exact ⟨k + 1, _, by omega, by go_num, rfl, Lib.hid rfl, S.sub (by repeat (first | exact .refl _ | exact List.nil_sublist _ | apply List.Sublist.cons_cons | apply List.Sublist.cons))⟩
        case measure => simp [intOf]; omega
    · obtain rfl : k = N := by omega
      have hlx : ¬ k < xs.length := by rw [HN.out]; omega
      clear hle
      go_wp2_with (first | (refine qst HL S 4 ?_; clear F S HL; intro w L HL S F))
      refine ret3 rfl (resCell S HL 4 rfl rfl (by kernel_rfl)) (show _ = _ from rfl) (show _ = _ from rfl) rfl ?_
      refine ⟨_, _, _, rfl, ?_⟩
      have e1 : Z.firTo k k = Z.fir k := to_full _ _
      have e2 : Z.secTo k k = Z.sec k := to_full _ _
      rw [e1, e2] at HL
      rw [Scl.opened_length]
      rw [show (Z.sec k).length = k from tab_length _ _, show (Z.fir k).length = k from tab_length _ _]
      exact (by rw [HL.out] at S; exact S.sub (by repeat (first | exact .refl _ | exact List.nil_sublist _ | apply List.Sublist.cons_cons | apply List.Sublist.cons)))
end
end Go.Proofs.YtjgfjfjboimgdaaGreat
