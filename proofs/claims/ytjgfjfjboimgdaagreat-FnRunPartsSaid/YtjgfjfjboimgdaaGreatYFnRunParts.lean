/-
  Proved here: shared networks run layer by layer: two parts, one behind the other, lead to the same shares, and open the same ring numbers.
-/
import Derived.Test.YtjgfjfjboimgdaaGreatY43
import Derived.Test.YtjgfjfjboimgdaaGreatY45
import Derived.Test.YtjgfjfjboimgdaaGreatY49
import Derived.Test.YtjgfjfjboimgdaaGreatY56
import Derived.Test.YtjgfjfjboimgdaaGreatY61
namespace Go.Proofs.YtjgfjfjboimgdaaGreat
set_option linter.unusedSimpArgs false
set_option linter.unusedVariables false
set_option linter.unusedSectionVars false
section
open Go Go.RowKit Go.ChangeShapes Go.WideShapes Go.ChangeAt
theorem ints_join {w : World} {u : Value} {xs ys zs : List Int} (h : Sees w 1 u (xs.length + ys.length) (ints xs ++ ints ys)) (e : zs = xs ++ ys) : Ints w u zs := by
  subst e
  unfold Ints
  rw [List.length_append, ints_append]
  exact h
section
attribute [local irreducible] wpList Oper.wp Calls
set_option maxHeartbeats 40000000 in
set_option maxRecDepth 20000 in
theorem L_FnRunParts (v : Value) (w0 : World) (h : Bytes w0 v) : Calls Tryz.prog 5 #[v] w0 fun e w' => e = .returned (.bool true) ∧ Below w0.heap.size w0 w' := by
  have HB0 := Lib.hid h
  obtain ⟨A, n, cap, rfl, hcap, hmax, _⟩ := h
  unfold maxLen at hmax
  by_cases hbig : n > 1048576
  · obtain ⟨L, HL, S⟩ := st_start w0; have F : True := trivial
    go_enter Tryz.func5, Tryz.ntmps5
    go_wp2_with (first | (refine qbx HL S ?_; clear F S HL; intro g w L HL S F)  | (refine qst HL S 0 ?_; clear F S HL; intro w L HL S F) | (refine qst HL S 1 ?_; clear F S HL; intro w L HL S F) | (refine qst HL S 2 ?_; clear F S HL; intro w L HL S F) | (refine qst HL S 3 ?_; clear F S HL; intro w L HL S F)  )
    go_ret
    exact ⟨rfl, S.below⟩
  obtain ⟨L, HL, S⟩ := st_start w0; have F : True := trivial
  go_enter Tryz.func5, Tryz.ntmps5
  go_upto_region 4 with (first | (go_at_call 30; refine (C_DrawRunShared _ _ (HB0.out.below S.below)).mono ?_; rintro e w0 ⟨ls, x, s, v, u, t, rfl, hf, hxl, hs, hsh, hu, hv, hb⟩; have HBB := Lib.hid (S.below.trans (hb.mono S.below.size)); clear S HL F hb; have HS := Lib.hid hs; have HU := Lib.hid hu; have HV := Lib.hid hv; obtain ⟨B0, cb0, rfl, hcb0, hmb0, _⟩ := hs; obtain ⟨_, B2, cb2, rfl, hcb2, hmb2, _⟩ := hu; obtain ⟨_, B3, cb3, rfl, hcb3, hmb3, _⟩ := hv; obtain ⟨L, HL, S⟩ := st_start w0; have F : True := trivial) | (refine qal HL S zSMx ?_; clear F S HL; intro gx w L HL S F) | (refine qst HL S 0 ?_; clear F S HL; intro w L HL S F))
  obtain ⟨hf1, hf2⟩ := hf
  obtain ⟨hx1, hx2⟩ := hxl
  obtain ⟨z, hz⟩ : ∃ z, runS ls x s = z := ⟨_, rfl⟩
  have hsm : ∀ l ∈ ls, SLySmall 1048576 l := fun l hl => ⟨by have := (hf2 l hl).1; omega, fun m hm => by have := (hf2 l hl).2 m hm; exact ⟨by omega, by omega⟩⟩
  have HLE : Hid (∀ l ∈ ls, l.ws.length ≤ 1048576) := Lib.hid fun l hl => (hsm l hl).1
  have CI := fun t u v w ht hu hv => C_impl_RunShared ls x s t u v z w ht HLE.out hu hv hz
  have CS := fun t u v w ht hu hv => C_spec_RunShared ls x s t u v z w ht (by omega) hsm hu hv (by omega) (by omega) hz
  unfold MakesScl at CI CS
  (try dsimp only at CI CS)
  have HZ := Lib.hid hz
  have HF := Lib.hid (And.intro hf1 hf2)
  clear hz hf1 hf2 hsm
  go_upto_region 5 with (first | refine qLb6 S ?_ | (go_at_call 31; refine (CI _ _ _ _ (HS.out.at_ S) (HU.out.at_ S) (HV.out.at_ S)).mono ?_; rintro e w ⟨u1, v1, o1, rfl, T0⟩; have hX := qcl HL S T0; clear F S HL T0; obtain ⟨L, HL, S, F⟩ := hX; obtain ⟨O1, e1, rfl, heo1, hmo1⟩ := qSl HL S 0; obtain ⟨B1, d1, rfl, hdb1, hmb1⟩ := qSl HL S 1; obtain ⟨A1, c1, rfl, hca1, hma1⟩ := qSl HL S 2) | (refine qal HL S zSMx ?_; clear F S HL; intro gs w L HL S F) | (refine qst HL S 0 ?_; clear F S HL; intro w L HL S F))
  go_upto_region 6 with (first | refine qLb6 S ?_ | (go_at_call 32; refine (CS _ _ _ _ (HS.out.at_ S) (HU.out.at_ S) (HV.out.at_ S)).mono ?_; rintro e w ⟨u7, v7, o7, rfl, T0⟩; have hX := qcl HL S T0; clear F S HL T0; obtain ⟨L, HL, S, F⟩ := hX; obtain ⟨O7, e7, rfl, heo7, hmo7⟩ := qSl HL S 0; obtain ⟨B7, d7, rfl, hdb7, hmb7⟩ := qSl HL S 1; obtain ⟨A7, c7, rfl, hca7, hma7⟩ := qSl HL S 2) | (refine qal HL S zSMx ?_; clear F S HL; intro gt w L HL S F) | (refine qst HL S 0 ?_; clear F S HL; intro w L HL S F))
  clear CI CS
  go_upto_region 8 with (first | refine qLb6 S ?_ | (go_at_call 24; refine qGr S (C_sameSsL _ _ _ _ _ _ _ _ _ _ _ (by exact (Sees.row S qAt)) (by exact (Sees.row S qAt)) (by exact (Sees.row S qAt)) (by exact (Sees.row S qAt))) ?_; clear S; intro w S) | (go_at_call 25; refine qGr S (C_sameInts _ _ _ _ (by exact (Sees.row S qAt)) (by exact (Sees.row S qAt))) ?_; clear S; intro w S))
  cases hok : runOk ls x s with
  | false =>
    have hz := HZ.out
    rw [runS_not hok] at hz
    have e1 : z.last = 0 := by rw [← hz]
    have e2 : z.m.a.r = 0 := by rw [← hz]; rfl
    have e3 : z.os.length = 0 := by rw [← hz]; rfl
    have e4 : (z.last == 0) = true := by rw [e1]; rfl
    clear hz hok
    go_wp2_with (first | (go_at_call 26; refine qPu (C_alive _) ?_))
    go_ret
    exact ⟨rfl, HBB.out.trans (S.below.mono HBB.out.size)⟩
  | true =>
  have hlast : (z.last == 0) = false ∧ ¬ z.last = 0 := by
    have h1 := (runS_law hok).seed
    rw [HZ.out] at h1
    have h2 := seedOk_bd h1
    exact ⟨by rw [beq_eq_false_iff_ne]; omega, by omega⟩
  obtain ⟨hl1, hl2⟩ := hlast
  obtain ⟨m, hm⟩ : ∃ m, ls.length = m := ⟨_, rfl⟩
  obtain ⟨q, hq⟩ : ∃ q, m / 2 = q := ⟨_, rfl⟩
  have h4 : m ≤ 4 := by rw [← hm]; exact (runOk_parts hok).2.2.2.1
  have hqm : q ≤ m := by omega
  have hq2 : 2 * q ≤ m := by omega
  have hqd : (m : Int).tdiv 2 = (q : Int) := by rw [Int.tdiv_eq_ediv_of_nonneg (by omega), ← hq]; rfl
  have hqd' : (m : Int) / 2 = (q : Int) := by omega
  obtain ⟨_, _, pm, pl, po⟩ := runS_parts hok q (by omega)
  rw [HZ.out] at pm pl po
  obtain ⟨z1, hz1⟩ : ∃ r, runS (ls.take q) x s = r := ⟨_, rfl⟩
  rw [hz1] at pm pl po
  obtain ⟨z2, hz2⟩ : ∃ r, runS (ls.drop q) z1.m z1.last = r := ⟨_, rfl⟩
  rw [hz2] at pm pl po
  have b1 : z1.os.length ≤ 2400 := hz1 ▸ (runS_few _ _ _).2.2
  have b2 : z2.os.length ≤ 2400 := hz2 ▸ (runS_few _ _ _).2.2
  obtain ⟨m2, o2, l2⟩ := z2
  dsimp only at pm pl po b2
  subst pm pl
  have HOS := Lib.hid po
  have CP1 := fun t u v w ht hu hv => C_impl_RunShared (ls.take q) x s t u v z1 w ht (fun l hl => HLE.out l (List.mem_of_mem_take hl)) hu hv hz1
  have CP2 := fun t u v w ht hu hv => C_impl_RunShared (ls.drop q) z1.m z1.last t u v ⟨z.m, o2, z.last⟩ w ht (fun l hl => HLE.out l (List.mem_of_mem_drop hl)) hu hv hz2
  unfold MakesScl at CP1 CP2
  dsimp only at CP2
  have HSM := HS
  rw [hm] at HSM hcb0 hsh
  (try rw [hm] at HL)
  (try rw [hm] at F)
  (try rw [hm])
  have HF1 := Lib.hid (HSM.out.front q hqm)
  have HM := Lib.hid hm
  unfold maxLen at hmb0
  clear hz1 hz2 po hm hok HS hq
  go_upto_region 10 with fail
  go_upto_region 11 with fail
  rcases hsh with ⟨he, hl0⟩ | ⟨gl, cl, he⟩
  · simp only [Value.slice.injEq] at he
    obtain ⟨rfl, rfl, rfl⟩ := he
    obtain rfl : q = 0 := by omega
    subst hl0
    have HR1 := HF1
    (try simp only [Act.put, qP0, qP1, qP2])
    go_cut [13, 14, 15] (fun b o l w => ∃ (g13 : Nat) (Ag13 Bg13 Og13 : Option Addr) (cg13 dg13 eg13 : Nat), b = .pointer (some ⟨g13, 0, none⟩) ∧ o = .slice Og13 z1.os.length eg13 ∧ l = .int .i64 z1.last ∧ St w0 w (.box g13 32 [.int .i64 z1.m.a.r, .int .i64 z1.m.a.c, .slice Ag13 z1.m.a.xs.length cg13, .int .i64 z1.m.b.r, .int .i64 z1.m.b.c, .slice Bg13 z1.m.b.xs.length dg13] :: .row 3 1 (.slice Og13 z1.os.length eg13) z1.os.length (ints z1.os) :: .row 3 1 (.slice Bg13 z1.m.b.xs.length dg13) z1.m.b.xs.length (ints z1.m.b.xs) :: .row 3 1 (.slice Ag13 z1.m.a.xs.length cg13) z1.m.a.xs.length (ints z1.m.a.xs) :: L))
    case first =>
      have HL0 := HL; have F0 := F; refine wp_region_tree (S := fun w' => St w0 w' L) (qcs 0 5 (.act 5 (qcs 6 4 (.act 10 (.act 11 (.calm 12 (.calm 13 .fin)) .stop) .stop)) (.act 10 (.act 5 (qcs 6 4 (.act 11 (.calm 12 (.calm 13 .fin)) .stop)) .stop) .stop))) (by kernel_rfl) (by kernel_rfl) (by kernel_rfl) (by intro c a d v w h; cases d <;> exact h) ?_; dsimp only [qcs, Nat.reduceAdd]; replace S := S.drew
      repeat' (first | refine qTb6 ?_ | refine qCa ?_ | refine qAn ?_ | refine qSk ?_ | exact tree_stop | (refine tree_act rfl rfl ?_ ?_) | (intro K hK; (refine qaw HL S zSMx ?_; clear F S HL; intro g w L HL S F); (refine qKo hK ?_; clear hK K)) | (intro K hK; (refine qsw HL S 0 ?_; clear F S HL; intro w L HL S F); (refine qKo hK ?_; clear hK K)) | (intro K hK; (refine qsw HL S 3 ?_; clear F S HL; intro w L HL S F); (refine qKo hK ?_; clear hK K)) | (intro K hK; go_wp2_with (first | (go_at_call 31; refine (CP1 _ _ _ _ (HF1.out.at_ S) (HU.out.at_ S) (HV.out.at_ S)).mono ?_; rintro e w ⟨u1', v1', o1', rfl, T0⟩; have hX := qcl HL S T0; clear F S HL T0; obtain ⟨L, HL, S, F⟩ := hX; obtain ⟨Ao, co, rfl, hco, hmo⟩ := qSl HL S 0; obtain ⟨A', cap', rfl, hcap', hmax'⟩ := qSl HL S 1; obtain ⟨A', cap', rfl, hcap', hmax'⟩ := qSl HL S 2)); (refine qKo hK ?_; clear hK K)))
      all_goals
        refine tree_fin ?_
        go_wp2_with fail
        go_meet
        rw [HL0.out]
        rw [HL.out] at S
        exact ⟨_, _, _, _, _, _, _, rfl, rfl, rfl, S.sel (by exact qQ4)⟩
    case rest =>
    obtain ⟨g13, Ag13, Bg13, Og13, cg13, dg13, eg13, rfl, rfl, rfl, T0⟩ := hcut
    obtain ⟨L, hM, T⟩ := st_name T0
    clear T0
    clear F S; replace HL := qNm HL hM; clear hM; have S := T; clear T; have F := qFc HL S
    clear CP1
    go_upto_region 12 with fail
    (try simp only [Act.put, qP0, qP1, qP2])
    go_cut [16, 17, 18] (fun b o l w => ∃ (g16 : Nat) (Ag16 Bg16 Og16 : Option Addr) (cg16 dg16 eg16 : Nat), b = .pointer (some ⟨g16, 0, none⟩) ∧ o = .slice Og16 o2.length eg16 ∧ l = .int .i64 z.last ∧ St w0 w (.box g16 32 [.int .i64 z.m.a.r, .int .i64 z.m.a.c, .slice Ag16 z.m.a.xs.length cg16, .int .i64 z.m.b.r, .int .i64 z.m.b.c, .slice Bg16 z.m.b.xs.length dg16] :: .row 3 1 (.slice Og16 o2.length eg16) o2.length (ints o2) :: .row 3 1 (.slice Bg16 z.m.b.xs.length dg16) z.m.b.xs.length (ints z.m.b.xs) :: .row 3 1 (.slice Ag16 z.m.a.xs.length cg16) z.m.a.xs.length (ints z.m.a.xs) :: L))
    case first =>
      have HL0 := HL; have F0 := F; refine wp_region_tree (S := fun w' => St w0 w' L) (qcs 0 5 (.act 5 (qcs 6 4 (.act 10 (.act 11 (.calm 12 (.calm 13 .fin)) .stop) .stop)) (.act 10 (.act 5 (qcs 6 4 (.act 11 (.calm 12 (.calm 13 .fin)) .stop)) .stop) .stop))) (by kernel_rfl) (by kernel_rfl) (by kernel_rfl) (by intro c a d v w h; cases d <;> exact h) ?_; dsimp only [qcs, Nat.reduceAdd]; replace S := S.drew
      repeat' (first | refine qTb6 ?_ | refine qCa ?_ | refine qAn ?_ | refine qSk ?_ | exact tree_stop | (refine tree_act rfl rfl ?_ ?_) | (intro K hK; (refine qaw HL S zSMx ?_; clear F S HL; intro g w L HL S F); (refine qKo hK ?_; clear hK K)) | (intro K hK; (refine qsw HL S 0 ?_; clear F S HL; intro w L HL S F); (refine qKo hK ?_; clear hK K)) | (intro K hK; (refine qsw HL S 3 ?_; clear F S HL; intro w L HL S F); (refine qKo hK ?_; clear hK K)) | (intro K hK; go_wp2_with (first | (go_at_call 31; refine (CP2 _ _ _ _ (HR1.out.at_ S) (Sees.row S qAt) (Sees.row S qAt)).mono ?_; rintro e w ⟨u1', v1', o1', rfl, T0⟩; have hX := qcl HL S T0; clear F S HL T0; obtain ⟨L, HL, S, F⟩ := hX; obtain ⟨Ao, co, rfl, hco, hmo⟩ := qSl HL S 0; obtain ⟨A', cap', rfl, hcap', hmax'⟩ := qSl HL S 1; obtain ⟨A', cap', rfl, hcap', hmax'⟩ := qSl HL S 2)); (refine qKo hK ?_; clear hK K)))
      all_goals
        refine tree_fin ?_
        go_wp2_with fail
        go_meet
        rw [HL0.out]
        rw [HL.out] at S
        exact ⟨_, _, _, _, _, _, _, rfl, rfl, rfl, S.sel (by exact qQ4)⟩
    case rest =>
    obtain ⟨g16, Ag16, Bg16, Og16, cg16, dg16, eg16, rfl, rfl, rfl, T0⟩ := hcut
    obtain ⟨L, hM, T⟩ := st_name T0
    clear T0
    clear F S; replace HL := qNm HL hM; clear hM; have S := T; clear T; have F := qFc HL S
    clear CP2
    go_wp2_with (first | refine qLb6 S ?_ | (go_at_call 24; refine qGr S (C_sameSsL _ _ _ _ _ _ _ _ _ _ _ (by exact (Sees.row S qAt)) (by exact (Sees.row S qAt)) (by exact (Sees.row S qAt)) (by exact (Sees.row S qAt))) ?_; clear S; intro w S) | (refine BigFrame.wpList_want (by rfl) ?_; intro K hK; refine wp_emptyT S _ rfl 3 Tryz.underlying23 infoInt ?_; intro gE w L hM T; refine hK _ _ ?_; clear hK K; clear F S; replace HL := qNm HL hM; clear hM; have S := T; clear T; have F := qFc HL S) | (refine BigFrame.wpList_want (by rfl) ?_; intro K hK; refine wp_append_see S _ _ _ rfl 0 3 _ 1 8 Tryz.underlying23 infoInt rfl (by omega) _ _ _ rfl (atOf HL rfl) _ _ _ rfl (by exact (Sees.row S qAt)) (ints_one _) (by simp only [maxLen]; omega) (by omega) ?_; intro u' w L hM T; refine hK _ _ ?_; clear hK K; clear F S; replace HL := qNm HL hM; clear hM; have S := T; clear T; have F := qFc HL S) | (go_at_call 25; refine qGr S (C_sameInts _ _ z.os _ (ints_join (Sees.row S (atOf HL (p := 0) rfl)) HOS.out) (by exact (Sees.row S qAt))) ?_; clear S; intro w S))
    go_ret
    exact ⟨rfl, HBB.out.trans (S.below.mono HBB.out.size)⟩
  · simp only [Value.slice.injEq] at he
    obtain ⟨rfl, _, rfl⟩ := he
    rcases Nat.eq_zero_or_pos m with hm0 | hm0
    · obtain rfl : q = 0 := by omega
      subst hm0
      obtain rfl : ls = [] := List.length_eq_zero_iff.1 HM.out
      have HR1 := HF1
      by_cases hc0 : cb0 = 0
      · subst hc0
        (try simp only [Act.put, qP0, qP1, qP2])
        go_cut [13, 14, 15] (fun b o l w => ∃ (g13 : Nat) (Ag13 Bg13 Og13 : Option Addr) (cg13 dg13 eg13 : Nat), b = .pointer (some ⟨g13, 0, none⟩) ∧ o = .slice Og13 z1.os.length eg13 ∧ l = .int .i64 z1.last ∧ St w0 w (.box g13 32 [.int .i64 z1.m.a.r, .int .i64 z1.m.a.c, .slice Ag13 z1.m.a.xs.length cg13, .int .i64 z1.m.b.r, .int .i64 z1.m.b.c, .slice Bg13 z1.m.b.xs.length dg13] :: .row 3 1 (.slice Og13 z1.os.length eg13) z1.os.length (ints z1.os) :: .row 3 1 (.slice Bg13 z1.m.b.xs.length dg13) z1.m.b.xs.length (ints z1.m.b.xs) :: .row 3 1 (.slice Ag13 z1.m.a.xs.length cg13) z1.m.a.xs.length (ints z1.m.a.xs) :: L))
        case first =>
          have HL0 := HL; have F0 := F; refine wp_region_tree (S := fun w' => St w0 w' L) (qcs 0 5 (.act 5 (qcs 6 4 (.act 10 (.act 11 (.calm 12 (.calm 13 .fin)) .stop) .stop)) (.act 10 (.act 5 (qcs 6 4 (.act 11 (.calm 12 (.calm 13 .fin)) .stop)) .stop) .stop))) (by kernel_rfl) (by kernel_rfl) (by kernel_rfl) (by intro c a d v w h; cases d <;> exact h) ?_; dsimp only [qcs, Nat.reduceAdd]; replace S := S.drew
          repeat' (first | refine qTb6 ?_ | refine qCa ?_ | refine qAn ?_ | refine qSk ?_ | exact tree_stop | (refine tree_act rfl rfl ?_ ?_) | (intro K hK; (refine qaw HL S zSMx ?_; clear F S HL; intro g w L HL S F); (refine qKo hK ?_; clear hK K)) | (intro K hK; (refine qsw HL S 0 ?_; clear F S HL; intro w L HL S F); (refine qKo hK ?_; clear hK K)) | (intro K hK; (refine qsw HL S 3 ?_; clear F S HL; intro w L HL S F); (refine qKo hK ?_; clear hK K)) | (intro K hK; go_wp2_with (first | (go_at_call 31; refine (CP1 _ _ _ _ (HF1.out.at_ S) (HU.out.at_ S) (HV.out.at_ S)).mono ?_; rintro e w ⟨u1', v1', o1', rfl, T0⟩; have hX := qcl HL S T0; clear F S HL T0; obtain ⟨L, HL, S, F⟩ := hX; obtain ⟨Ao, co, rfl, hco, hmo⟩ := qSl HL S 0; obtain ⟨A', cap', rfl, hcap', hmax'⟩ := qSl HL S 1; obtain ⟨A', cap', rfl, hcap', hmax'⟩ := qSl HL S 2)); (refine qKo hK ?_; clear hK K)))
          all_goals
            refine tree_fin ?_
            go_wp2_with fail
            go_meet
            rw [HL0.out]
            rw [HL.out] at S
            exact ⟨_, _, _, _, _, _, _, rfl, rfl, rfl, S.sel (by exact qQ4)⟩
        case rest =>
        obtain ⟨g13, Ag13, Bg13, Og13, cg13, dg13, eg13, rfl, rfl, rfl, T0⟩ := hcut
        obtain ⟨L, hM, T⟩ := st_name T0
        clear T0
        clear F S; replace HL := qNm HL hM; clear hM; have S := T; clear T; have F := qFc HL S
        clear CP1
        go_upto_region 12 with fail
        (try simp only [Act.put, qP0, qP1, qP2])
        go_cut [16, 17, 18] (fun b o l w => ∃ (g16 : Nat) (Ag16 Bg16 Og16 : Option Addr) (cg16 dg16 eg16 : Nat), b = .pointer (some ⟨g16, 0, none⟩) ∧ o = .slice Og16 o2.length eg16 ∧ l = .int .i64 z.last ∧ St w0 w (.box g16 32 [.int .i64 z.m.a.r, .int .i64 z.m.a.c, .slice Ag16 z.m.a.xs.length cg16, .int .i64 z.m.b.r, .int .i64 z.m.b.c, .slice Bg16 z.m.b.xs.length dg16] :: .row 3 1 (.slice Og16 o2.length eg16) o2.length (ints o2) :: .row 3 1 (.slice Bg16 z.m.b.xs.length dg16) z.m.b.xs.length (ints z.m.b.xs) :: .row 3 1 (.slice Ag16 z.m.a.xs.length cg16) z.m.a.xs.length (ints z.m.a.xs) :: L))
        case first =>
          have HL0 := HL; have F0 := F; refine wp_region_tree (S := fun w' => St w0 w' L) (qcs 0 5 (.act 5 (qcs 6 4 (.act 10 (.act 11 (.calm 12 (.calm 13 .fin)) .stop) .stop)) (.act 10 (.act 5 (qcs 6 4 (.act 11 (.calm 12 (.calm 13 .fin)) .stop)) .stop) .stop))) (by kernel_rfl) (by kernel_rfl) (by kernel_rfl) (by intro c a d v w h; cases d <;> exact h) ?_; dsimp only [qcs, Nat.reduceAdd]; replace S := S.drew
          repeat' (first | refine qTb6 ?_ | refine qCa ?_ | refine qAn ?_ | refine qSk ?_ | exact tree_stop | (refine tree_act rfl rfl ?_ ?_) | (intro K hK; (refine qaw HL S zSMx ?_; clear F S HL; intro g w L HL S F); (refine qKo hK ?_; clear hK K)) | (intro K hK; (refine qsw HL S 0 ?_; clear F S HL; intro w L HL S F); (refine qKo hK ?_; clear hK K)) | (intro K hK; (refine qsw HL S 3 ?_; clear F S HL; intro w L HL S F); (refine qKo hK ?_; clear hK K)) | (intro K hK; go_wp2_with (first | (go_at_call 31; refine (CP2 _ _ _ _ (HR1.out.at_ S) (Sees.row S qAt) (Sees.row S qAt)).mono ?_; rintro e w ⟨u1', v1', o1', rfl, T0⟩; have hX := qcl HL S T0; clear F S HL T0; obtain ⟨L, HL, S, F⟩ := hX; obtain ⟨Ao, co, rfl, hco, hmo⟩ := qSl HL S 0; obtain ⟨A', cap', rfl, hcap', hmax'⟩ := qSl HL S 1; obtain ⟨A', cap', rfl, hcap', hmax'⟩ := qSl HL S 2)); (refine qKo hK ?_; clear hK K)))
          all_goals
            refine tree_fin ?_
            go_wp2_with fail
            go_meet
            rw [HL0.out]
            rw [HL.out] at S
            exact ⟨_, _, _, _, _, _, _, rfl, rfl, rfl, S.sel (by exact qQ4)⟩
        case rest =>
        obtain ⟨g16, Ag16, Bg16, Og16, cg16, dg16, eg16, rfl, rfl, rfl, T0⟩ := hcut
        obtain ⟨L, hM, T⟩ := st_name T0
        clear T0
        clear F S; replace HL := qNm HL hM; clear hM; have S := T; clear T; have F := qFc HL S
        clear CP2
        go_wp2_with (first | refine qLb6 S ?_ | (go_at_call 24; refine qGr S (C_sameSsL _ _ _ _ _ _ _ _ _ _ _ (by exact (Sees.row S qAt)) (by exact (Sees.row S qAt)) (by exact (Sees.row S qAt)) (by exact (Sees.row S qAt))) ?_; clear S; intro w S) | (refine BigFrame.wpList_want (by rfl) ?_; intro K hK; refine wp_emptyT S _ rfl 3 Tryz.underlying23 infoInt ?_; intro gE w L hM T; refine hK _ _ ?_; clear hK K; clear F S; replace HL := qNm HL hM; clear hM; have S := T; clear T; have F := qFc HL S) | (refine BigFrame.wpList_want (by rfl) ?_; intro K hK; refine wp_append_see S _ _ _ rfl 0 3 _ 1 8 Tryz.underlying23 infoInt rfl (by omega) _ _ _ rfl (atOf HL rfl) _ _ _ rfl (by exact (Sees.row S qAt)) (ints_one _) (by simp only [maxLen]; omega) (by omega) ?_; intro u' w L hM T; refine hK _ _ ?_; clear hK K; clear F S; replace HL := qNm HL hM; clear hM; have S := T; clear T; have F := qFc HL S) | (go_at_call 25; refine qGr S (C_sameInts _ _ z.os _ (ints_join (Sees.row S (atOf HL (p := 0) rfl)) HOS.out) (by exact (Sees.row S qAt))) ?_; clear S; intro w S))
        go_ret
        exact ⟨rfl, HBB.out.trans (S.below.mono HBB.out.size)⟩
      ·
        (try simp only [Act.put, qP0, qP1, qP2])
        go_cut [13, 14, 15] (fun b o l w => ∃ (g13 : Nat) (Ag13 Bg13 Og13 : Option Addr) (cg13 dg13 eg13 : Nat), b = .pointer (some ⟨g13, 0, none⟩) ∧ o = .slice Og13 z1.os.length eg13 ∧ l = .int .i64 z1.last ∧ St w0 w (.box g13 32 [.int .i64 z1.m.a.r, .int .i64 z1.m.a.c, .slice Ag13 z1.m.a.xs.length cg13, .int .i64 z1.m.b.r, .int .i64 z1.m.b.c, .slice Bg13 z1.m.b.xs.length dg13] :: .row 3 1 (.slice Og13 z1.os.length eg13) z1.os.length (ints z1.os) :: .row 3 1 (.slice Bg13 z1.m.b.xs.length dg13) z1.m.b.xs.length (ints z1.m.b.xs) :: .row 3 1 (.slice Ag13 z1.m.a.xs.length cg13) z1.m.a.xs.length (ints z1.m.a.xs) :: L))
        case first =>
          have HL0 := HL; have F0 := F; refine wp_region_tree (S := fun w' => St w0 w' L) (qcs 0 5 (.act 5 (qcs 6 4 (.act 10 (.act 11 (.calm 12 (.calm 13 .fin)) .stop) .stop)) (.act 10 (.act 5 (qcs 6 4 (.act 11 (.calm 12 (.calm 13 .fin)) .stop)) .stop) .stop))) (by kernel_rfl) (by kernel_rfl) (by kernel_rfl) (by intro c a d v w h; cases d <;> exact h) ?_; dsimp only [qcs, Nat.reduceAdd]; replace S := S.drew
          repeat' (first | refine qTb6 ?_ | refine qCa ?_ | refine qAn ?_ | refine qSk ?_ | exact tree_stop | (refine tree_act rfl rfl ?_ ?_) | (intro K hK; (refine qaw HL S zSMx ?_; clear F S HL; intro g w L HL S F); (refine qKo hK ?_; clear hK K)) | (intro K hK; (refine qsw HL S 0 ?_; clear F S HL; intro w L HL S F); (refine qKo hK ?_; clear hK K)) | (intro K hK; (refine qsw HL S 3 ?_; clear F S HL; intro w L HL S F); (refine qKo hK ?_; clear hK K)) | (intro K hK; go_wp2_with (first | (go_at_call 31; refine (CP1 _ _ _ _ (HF1.out.at_ S) (HU.out.at_ S) (HV.out.at_ S)).mono ?_; rintro e w ⟨u1', v1', o1', rfl, T0⟩; have hX := qcl HL S T0; clear F S HL T0; obtain ⟨L, HL, S, F⟩ := hX; obtain ⟨Ao, co, rfl, hco, hmo⟩ := qSl HL S 0; obtain ⟨A', cap', rfl, hcap', hmax'⟩ := qSl HL S 1; obtain ⟨A', cap', rfl, hcap', hmax'⟩ := qSl HL S 2)); (refine qKo hK ?_; clear hK K)))
          all_goals
            refine tree_fin ?_
            go_wp2_with fail
            go_meet
            rw [HL0.out]
            rw [HL.out] at S
            exact ⟨_, _, _, _, _, _, _, rfl, rfl, rfl, S.sel (by exact qQ4)⟩
        case rest =>
        obtain ⟨g13, Ag13, Bg13, Og13, cg13, dg13, eg13, rfl, rfl, rfl, T0⟩ := hcut
        obtain ⟨L, hM, T⟩ := st_name T0
        clear T0
        clear F S; replace HL := qNm HL hM; clear hM; have S := T; clear T; have F := qFc HL S
        clear CP1
        go_upto_region 12 with fail
        (try simp only [Act.put, qP0, qP1, qP2])
        go_cut [16, 17, 18] (fun b o l w => ∃ (g16 : Nat) (Ag16 Bg16 Og16 : Option Addr) (cg16 dg16 eg16 : Nat), b = .pointer (some ⟨g16, 0, none⟩) ∧ o = .slice Og16 o2.length eg16 ∧ l = .int .i64 z.last ∧ St w0 w (.box g16 32 [.int .i64 z.m.a.r, .int .i64 z.m.a.c, .slice Ag16 z.m.a.xs.length cg16, .int .i64 z.m.b.r, .int .i64 z.m.b.c, .slice Bg16 z.m.b.xs.length dg16] :: .row 3 1 (.slice Og16 o2.length eg16) o2.length (ints o2) :: .row 3 1 (.slice Bg16 z.m.b.xs.length dg16) z.m.b.xs.length (ints z.m.b.xs) :: .row 3 1 (.slice Ag16 z.m.a.xs.length cg16) z.m.a.xs.length (ints z.m.a.xs) :: L))
        case first =>
          have HL0 := HL; have F0 := F; refine wp_region_tree (S := fun w' => St w0 w' L) (qcs 0 5 (.act 5 (qcs 6 4 (.act 10 (.act 11 (.calm 12 (.calm 13 .fin)) .stop) .stop)) (.act 10 (.act 5 (qcs 6 4 (.act 11 (.calm 12 (.calm 13 .fin)) .stop)) .stop) .stop))) (by kernel_rfl) (by kernel_rfl) (by kernel_rfl) (by intro c a d v w h; cases d <;> exact h) ?_; dsimp only [qcs, Nat.reduceAdd]; replace S := S.drew
          repeat' (first | refine qTb6 ?_ | refine qCa ?_ | refine qAn ?_ | refine qSk ?_ | exact tree_stop | (refine tree_act rfl rfl ?_ ?_) | (intro K hK; (refine qaw HL S zSMx ?_; clear F S HL; intro g w L HL S F); (refine qKo hK ?_; clear hK K)) | (intro K hK; (refine qsw HL S 0 ?_; clear F S HL; intro w L HL S F); (refine qKo hK ?_; clear hK K)) | (intro K hK; (refine qsw HL S 3 ?_; clear F S HL; intro w L HL S F); (refine qKo hK ?_; clear hK K)) | (intro K hK; go_wp2_with (first | (go_at_call 31; refine (CP2 _ _ _ _ (HR1.out.at_ S) (Sees.row S qAt) (Sees.row S qAt)).mono ?_; rintro e w ⟨u1', v1', o1', rfl, T0⟩; have hX := qcl HL S T0; clear F S HL T0; obtain ⟨L, HL, S, F⟩ := hX; obtain ⟨Ao, co, rfl, hco, hmo⟩ := qSl HL S 0; obtain ⟨A', cap', rfl, hcap', hmax'⟩ := qSl HL S 1; obtain ⟨A', cap', rfl, hcap', hmax'⟩ := qSl HL S 2)); (refine qKo hK ?_; clear hK K)))
          all_goals
            refine tree_fin ?_
            go_wp2_with fail
            go_meet
            rw [HL0.out]
            rw [HL.out] at S
            exact ⟨_, _, _, _, _, _, _, rfl, rfl, rfl, S.sel (by exact qQ4)⟩
        case rest =>
        obtain ⟨g16, Ag16, Bg16, Og16, cg16, dg16, eg16, rfl, rfl, rfl, T0⟩ := hcut
        obtain ⟨L, hM, T⟩ := st_name T0
        clear T0
        clear F S; replace HL := qNm HL hM; clear hM; have S := T; clear T; have F := qFc HL S
        clear CP2
        go_wp2_with (first | refine qLb6 S ?_ | (go_at_call 24; refine qGr S (C_sameSsL _ _ _ _ _ _ _ _ _ _ _ (by exact (Sees.row S qAt)) (by exact (Sees.row S qAt)) (by exact (Sees.row S qAt)) (by exact (Sees.row S qAt))) ?_; clear S; intro w S) | (refine BigFrame.wpList_want (by rfl) ?_; intro K hK; refine wp_emptyT S _ rfl 3 Tryz.underlying23 infoInt ?_; intro gE w L hM T; refine hK _ _ ?_; clear hK K; clear F S; replace HL := qNm HL hM; clear hM; have S := T; clear T; have F := qFc HL S) | (refine BigFrame.wpList_want (by rfl) ?_; intro K hK; refine wp_append_see S _ _ _ rfl 0 3 _ 1 8 Tryz.underlying23 infoInt rfl (by omega) _ _ _ rfl (atOf HL rfl) _ _ _ rfl (by exact (Sees.row S qAt)) (ints_one _) (by simp only [maxLen]; omega) (by omega) ?_; intro u' w L hM T; refine hK _ _ ?_; clear hK K; clear F S; replace HL := qNm HL hM; clear hM; have S := T; clear T; have F := qFc HL S) | (go_at_call 25; refine qGr S (C_sameInts _ _ z.os _ (ints_join (Sees.row S (atOf HL (p := 0) rfl)) HOS.out) (by exact (Sees.row S qAt))) ?_; clear S; intro w S))
        go_ret
        exact ⟨rfl, HBB.out.trans (S.below.mono HBB.out.size)⟩
    · have hne : ¬ cb0 = q := by omega
      have hqc : q ≤ cb0 := by omega
      have HR1 : Hid (SeesSLs w0 (.slice (some ⟨gl, q * 2, none⟩) (m - q) (cb0 - q)) (ls.drop q)) := Lib.hid (HSM.out.rest q (m - q) (by omega) (q * 2) (cb0 - q) (by omega) ⟨by omega, by omega⟩)
      (try simp only [Act.put, qP0, qP1, qP2])
      go_cut [13, 14, 15] (fun b o l w => ∃ (g13 : Nat) (Ag13 Bg13 Og13 : Option Addr) (cg13 dg13 eg13 : Nat), b = .pointer (some ⟨g13, 0, none⟩) ∧ o = .slice Og13 z1.os.length eg13 ∧ l = .int .i64 z1.last ∧ St w0 w (.box g13 32 [.int .i64 z1.m.a.r, .int .i64 z1.m.a.c, .slice Ag13 z1.m.a.xs.length cg13, .int .i64 z1.m.b.r, .int .i64 z1.m.b.c, .slice Bg13 z1.m.b.xs.length dg13] :: .row 3 1 (.slice Og13 z1.os.length eg13) z1.os.length (ints z1.os) :: .row 3 1 (.slice Bg13 z1.m.b.xs.length dg13) z1.m.b.xs.length (ints z1.m.b.xs) :: .row 3 1 (.slice Ag13 z1.m.a.xs.length cg13) z1.m.a.xs.length (ints z1.m.a.xs) :: L))
      case first =>
        have HL0 := HL; have F0 := F; refine wp_region_tree (S := fun w' => St w0 w' L) (qcs 0 5 (.act 5 (qcs 6 4 (.act 10 (.act 11 (.calm 12 (.calm 13 .fin)) .stop) .stop)) (.act 10 (.act 5 (qcs 6 4 (.act 11 (.calm 12 (.calm 13 .fin)) .stop)) .stop) .stop))) (by kernel_rfl) (by kernel_rfl) (by kernel_rfl) (by intro c a d v w h; cases d <;> exact h) ?_; dsimp only [qcs, Nat.reduceAdd]; replace S := S.drew
        repeat' (first | refine qTb6 ?_ | refine qCa ?_ | refine qAn ?_ | refine qSk ?_ | exact tree_stop | (refine tree_act rfl rfl ?_ ?_) | (intro K hK; (refine qaw HL S zSMx ?_; clear F S HL; intro g w L HL S F); (refine qKo hK ?_; clear hK K)) | (intro K hK; (refine qsw HL S 0 ?_; clear F S HL; intro w L HL S F); (refine qKo hK ?_; clear hK K)) | (intro K hK; (refine qsw HL S 3 ?_; clear F S HL; intro w L HL S F); (refine qKo hK ?_; clear hK K)) | (intro K hK; go_wp2_with (first | (go_at_call 31; refine (CP1 _ _ _ _ (HF1.out.at_ S) (HU.out.at_ S) (HV.out.at_ S)).mono ?_; rintro e w ⟨u1', v1', o1', rfl, T0⟩; have hX := qcl HL S T0; clear F S HL T0; obtain ⟨L, HL, S, F⟩ := hX; obtain ⟨Ao, co, rfl, hco, hmo⟩ := qSl HL S 0; obtain ⟨A', cap', rfl, hcap', hmax'⟩ := qSl HL S 1; obtain ⟨A', cap', rfl, hcap', hmax'⟩ := qSl HL S 2)); (refine qKo hK ?_; clear hK K)))
        all_goals
          refine tree_fin ?_
          go_wp2_with fail
          go_meet
          rw [HL0.out]
          rw [HL.out] at S
          exact ⟨_, _, _, _, _, _, _, rfl, rfl, rfl, S.sel (by exact qQ4)⟩
      case rest =>
      obtain ⟨g13, Ag13, Bg13, Og13, cg13, dg13, eg13, rfl, rfl, rfl, T0⟩ := hcut
      obtain ⟨L, hM, T⟩ := st_name T0
      clear T0
      clear F S; replace HL := qNm HL hM; clear hM; have S := T; clear T; have F := qFc HL S
      clear CP1
      go_upto_region 12 with fail
      (try simp only [Act.put, qP0, qP1, qP2])
      go_cut [16, 17, 18] (fun b o l w => ∃ (g16 : Nat) (Ag16 Bg16 Og16 : Option Addr) (cg16 dg16 eg16 : Nat), b = .pointer (some ⟨g16, 0, none⟩) ∧ o = .slice Og16 o2.length eg16 ∧ l = .int .i64 z.last ∧ St w0 w (.box g16 32 [.int .i64 z.m.a.r, .int .i64 z.m.a.c, .slice Ag16 z.m.a.xs.length cg16, .int .i64 z.m.b.r, .int .i64 z.m.b.c, .slice Bg16 z.m.b.xs.length dg16] :: .row 3 1 (.slice Og16 o2.length eg16) o2.length (ints o2) :: .row 3 1 (.slice Bg16 z.m.b.xs.length dg16) z.m.b.xs.length (ints z.m.b.xs) :: .row 3 1 (.slice Ag16 z.m.a.xs.length cg16) z.m.a.xs.length (ints z.m.a.xs) :: L))
      case first =>
        have HL0 := HL; have F0 := F; refine wp_region_tree (S := fun w' => St w0 w' L) (qcs 0 5 (.act 5 (qcs 6 4 (.act 10 (.act 11 (.calm 12 (.calm 13 .fin)) .stop) .stop)) (.act 10 (.act 5 (qcs 6 4 (.act 11 (.calm 12 (.calm 13 .fin)) .stop)) .stop) .stop))) (by kernel_rfl) (by kernel_rfl) (by kernel_rfl) (by intro c a d v w h; cases d <;> exact h) ?_; dsimp only [qcs, Nat.reduceAdd]; replace S := S.drew
        repeat' (first | refine qTb6 ?_ | refine qCa ?_ | refine qAn ?_ | refine qSk ?_ | exact tree_stop | (refine tree_act rfl rfl ?_ ?_) | (intro K hK; (refine qaw HL S zSMx ?_; clear F S HL; intro g w L HL S F); (refine qKo hK ?_; clear hK K)) | (intro K hK; (refine qsw HL S 0 ?_; clear F S HL; intro w L HL S F); (refine qKo hK ?_; clear hK K)) | (intro K hK; (refine qsw HL S 3 ?_; clear F S HL; intro w L HL S F); (refine qKo hK ?_; clear hK K)) | (intro K hK; go_wp2_with (first | (go_at_call 31; refine (CP2 _ _ _ _ (HR1.out.at_ S) (Sees.row S qAt) (Sees.row S qAt)).mono ?_; rintro e w ⟨u1', v1', o1', rfl, T0⟩; have hX := qcl HL S T0; clear F S HL T0; obtain ⟨L, HL, S, F⟩ := hX; obtain ⟨Ao, co, rfl, hco, hmo⟩ := qSl HL S 0; obtain ⟨A', cap', rfl, hcap', hmax'⟩ := qSl HL S 1; obtain ⟨A', cap', rfl, hcap', hmax'⟩ := qSl HL S 2)); (refine qKo hK ?_; clear hK K)))
        all_goals
          refine tree_fin ?_
          go_wp2_with fail
          go_meet
          rw [HL0.out]
          rw [HL.out] at S
          exact ⟨_, _, _, _, _, _, _, rfl, rfl, rfl, S.sel (by exact qQ4)⟩
      case rest =>
      obtain ⟨g16, Ag16, Bg16, Og16, cg16, dg16, eg16, rfl, rfl, rfl, T0⟩ := hcut
      obtain ⟨L, hM, T⟩ := st_name T0
      clear T0
      clear F S; replace HL := qNm HL hM; clear hM; have S := T; clear T; have F := qFc HL S
      clear CP2
      go_wp2_with (first | refine qLb6 S ?_ | (go_at_call 24; refine qGr S (C_sameSsL _ _ _ _ _ _ _ _ _ _ _ (by exact (Sees.row S qAt)) (by exact (Sees.row S qAt)) (by exact (Sees.row S qAt)) (by exact (Sees.row S qAt))) ?_; clear S; intro w S) | (refine BigFrame.wpList_want (by rfl) ?_; intro K hK; refine wp_emptyT S _ rfl 3 Tryz.underlying23 infoInt ?_; intro gE w L hM T; refine hK _ _ ?_; clear hK K; clear F S; replace HL := qNm HL hM; clear hM; have S := T; clear T; have F := qFc HL S) | (refine BigFrame.wpList_want (by rfl) ?_; intro K hK; refine wp_append_see S _ _ _ rfl 0 3 _ 1 8 Tryz.underlying23 infoInt rfl (by omega) _ _ _ rfl (atOf HL rfl) _ _ _ rfl (by exact (Sees.row S qAt)) (ints_one _) (by simp only [maxLen]; omega) (by omega) ?_; intro u' w L hM T; refine hK _ _ ?_; clear hK K; clear F S; replace HL := qNm HL hM; clear hM; have S := T; clear T; have F := qFc HL S) | (go_at_call 25; refine qGr S (C_sameInts _ _ z.os _ (ints_join (Sees.row S (atOf HL (p := 0) rfl)) HOS.out) (by exact (Sees.row S qAt))) ?_; clear S; intro w S))
      go_ret
      exact ⟨rfl, HBB.out.trans (S.below.mono HBB.out.size)⟩
end
set_option maxRecDepth 100000 in
theorem FnRunParts_lifted (os : Os) (started : os.Started) (H : Type) (enc : TypeId × Value → H) :
    ReturnsInHanded {} Tryz.checked os 5 .any (Rows.fnRunPartsSpec.pre6 enc Tryz.prog Tryz.f5 Rows.fnRunPartsRow.domain false) (Rows.fnRunPartsSpec.post enc Tryz.prog Tryz.f5 false true false false) := by
  refine returnsInHanded_of_change (C := Tryz.checked) Tryz.ownKnob_ started (by kernel_rfl) Tryz.func5
    (ChangeSpec.witness6 (enc := enc) (C := Tryz.checked) false ⟨#[], #[.slice none 0 0], []⟩ 8 (by kernel_rfl) (by kernel_rfl) (by kernel_rfl) (by kernel_rfl)) ?_
  intro W base args ds gs before hval0 hW _ _
  have hval : ∀ (j : Nat) t v, Tryz.f5.params[j]? = some t → args[j]? = some v → Value.okWide Tryz.prog W .any base t v := hval0
  have hW' := hW
  obtain ⟨p, q, hA0, hV, rfl, _, _⟩ := hW
  have hA : DataW.TrodAll enc Tryz.prog W 0 (fun _ => true) true Tryz.f5.params.toList args.toList ds p := hA0
  rw [Tryz.params5] at hA hval
  obtain ⟨v0, vs0, d0, ds0, p0, q0, hargs, rfl, rfl, h0, r0⟩ := trodAll_cons hA
  obtain ⟨rfl, rfl, rfl⟩ := trodAll_nil r0
  obtain rfl : args = #[v0] := by cases args; simp_all
  obtain ⟨rfl, rfl⟩ := trodVars_none hV
  clear hA0 hval0
  have s0 := open_bytes (e := 5) (by kernel_rfl) (hval 0 _ v0 rfl rfl) h0
  refine (L_FnRunParts _ W s0).mono fun e W' ⟨he, hb⟩ => ⟨_, he, ?_⟩
  exact law_post 4 Tryz.underlying4 Tryz.laidOut_ (by kernel_rfl) rfl rfl hW' ⟨rfl, rfl, rfl⟩ hb
theorem FnRunParts_holds : Rows.FnRunPartsSaid :=
  OpenClaim.holds_of_wide 5 Tryz.f5 rfl rfl rfl rfl rfl rfl rfl ⟨rfl, rfl, rfl, rfl, rfl⟩ rfl rfl rfl rfl rfl (by kernel_rfl) Tryz.func5 (closed_of (by kernel_rfl))
    (of_decide_eq_true (by kernel_rfl)) (by unfold Func.isWrapper; first | (rw [if_pos (by decide +kernel)]; kernel_rfl) | (rw [if_neg (by decide +kernel)]; exact ⟨rfl, rfl⟩))
    (fun os started H enc _ => FnRunParts_lifted os started H enc)
end
end Go.Proofs.YtjgfjfjboimgdaaGreat
