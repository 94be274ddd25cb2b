/- SmR -/
import Derived.Test.YtjgfjfjboimgdaaGreatY30
import Derived.Test.YtjgfjfjboimgdaaGreatY50
namespace Go.Proofs.YtjgfjfjboimgdaaGreat
set_option linter.unusedSimpArgs false
set_option linter.unusedVariables false
set_option linter.unusedSectionVars false
open Go Go.RowKit
set_option maxHeartbeats 8000000
set_option maxRecDepth 20000
section
attribute [local irreducible] wpList Oper.wp Calls
theorem C_spec_SMix_bad (ws : List SMx) (x : SMx) (s : Int) (t u v : Value) (w0 : World) (hw : SeesSMs w0 t ws) (hn : ws.length ≤ 1048576) (hsm : ∀ m ∈ ws, SMSmall 1048576 m) (hu : Ints w0 u x.a.xs) (hv : Ints w0 v x.b.xs) (n1 : x.a.xs.length ≤ 1048576) (n2 : x.b.xs.length ≤ 1048576) (hok : mixOk ws x s = false) :
    Calls Tryz.prog 11 #[t, .agg #[.int .i64 (x).a.r, .int .i64 (x).a.c, u, .int .i64 (x).b.r, .int .i64 (x).b.c, v], .int .i64 s] w0 (MakesScl w0 ⟨SMx.zero, [], 0⟩) := by
  unfold MakesScl
  have CO := fun w h h' => C_l1OwnSharedMatrix x.a.r x.a.c x.a.xs x.b.r x.b.c x.b.xs u v w h h' n1 n2
  have CW := fun w h => C_l1OwnSharedMatrixList t ws w h hn hsm
  have CV : ∀ w : World, Calls Tryz.prog 44 #[.int .i64 s, .int .i64 1, .int .i64 2147483646] w fun e w' => e = .returned (.bool (seedOk s)) ∧ w = w' := fun w => C_spec_l1In s 1 2147483646 w
  unfold MakesSMx at CO
  have hok' : ((decide (ws.length = 3) && x.ok && ws.all (mixFitS x)) && seedOk s) = false := hok
  obtain ⟨bx, hbx⟩ : ∃ b, x.ok = b := ⟨_, rfl⟩
  obtain ⟨bs, hbs⟩ : ∃ b, seedOk s = b := ⟨_, rfl⟩
  rw [hbx, hbs] at hok'
  rw [hbs] at CV
  have HXO := Lib.hid hbx
  have HU := Lib.hid hu
  have HV := Lib.hid hv
  have HW := Lib.hid hw
  by_cases h3 : ws.length = 3
  rotate_left
  · clear hu hv hw hn hsm hok hok' hbx hbs n1 n2
    obtain ⟨L, HL, S⟩ := st_start w0; have F : True := trivial
    go_enter Tryz.func11, Tryz.ntmps11
    go_upto_region 1 with (first | (refine qbd 4 HL S ?_; clear F S HL; intro gx w L HL S F) | (refine qal HL S zSMx ?_; clear F S HL; intro g6 w L HL S F))
    go_upto_region 2 with (first | (go_at_call 41; refine (CW _ (HW.out.at_ S)).mono ?_; rintro e w ⟨u, ps, rfl, hps, T0⟩; have HPS := Lib.hid hps; clear hps; obtain ⟨Au, cu, rfl, hcu, hmu⟩ := T0.sliceOf (p := 0) (show At _ 0 _ from rfl); obtain ⟨L, hM, T⟩ := st_name ((S.call T0).perm List.perm_append_comm); clear T0; clear F S; replace HL := qNm HL hM; clear hM; have S := T; clear T; have F := qFc HL S))
    have hpl : ps.length = ws.length := by rw [← HPS.out, List.length_map]
    have hne : (((ps.length : Nat) : Int) == 3) = false := by rw [beq_eq_false_iff_ne]; omega
    have hne' : (((ps.length : Nat) : Int) != 3) = true := by rw [bne_iff_ne]; omega
    clear hpl h3
    go_upto_region 3 with (first | refine qLb6 S ?_ | (go_at_call 42; refine (CO _ (HU.out.at_ S) (HV.out.at_ S)).mono ?_; rintro e w ⟨u, v, rfl, T0⟩; have hX := qcl HL S T0; clear F S HL T0; obtain ⟨L, HL, S, F⟩ := hX; obtain ⟨A', cap', rfl, hcap', hmax'⟩ := qSl HL S 0; obtain ⟨A', cap', rfl, hcap', hmax'⟩ := qSl HL S 1) | (refine qst HL S 3 ?_; clear F S HL; intro w L HL S F))
    clear CO CW
    go_wp2_with (first | (refine wpList_empty rfl S _ rfl 3 Tryz.underlying23 infoInt ?_; clear F S; intro gl w L hM S; replace HL := qNm HL hM; clear hM; have F := qFc HL S) | (refine qst HL S 2 ?_; clear F S HL; intro w L HL S F) | (refine qst HL S 3 ?_; clear F S HL; intro w L HL S F) | (refine qst HL S 4 ?_; clear F S HL; intro w L HL S F))
    first
      | (refine ret3 rfl (resCell S HL 2 rfl rfl (by kernel_rfl)) (show _ = _ from rfl) (show _ = _ from rfl) rfl ?_)
      | (refine ret3 rfl (resCell S HL 3 rfl rfl (by kernel_rfl)) (show _ = _ from rfl) (show _ = _ from rfl) rfl ?_)
      | (refine ret3 rfl (resCell S HL 4 rfl rfl (by kernel_rfl)) (show _ = _ from rfl) (show _ = _ from rfl) rfl ?_)
    exact ⟨_, _, _, rfl, by rw [HL.out] at S; exact ((S.nilRow 3 1).nilRow 3 1).sel (Sel.cons 2 rfl (Sel.cons 0 rfl (Sel.cons 0 rfl Sel.nil)))⟩
  cases bx with
  | false =>
    clear hu hv hw hn hsm hok hok' hbx hbs n1 n2
    obtain ⟨L, HL, S⟩ := st_start w0; have F : True := trivial
    go_enter Tryz.func11, Tryz.ntmps11
    go_upto_region 1 with (first | (refine qbd 4 HL S ?_; clear F S HL; intro gx w L HL S F) | (refine qal HL S zSMx ?_; clear F S HL; intro g6 w L HL S F))
    go_upto_region 2 with (first | (go_at_call 41; refine (CW _ (HW.out.at_ S)).mono ?_; rintro e w ⟨u, ps, rfl, hps, T0⟩; have HPS := Lib.hid hps; clear hps; obtain ⟨Au, cu, rfl, hcu, hmu⟩ := T0.sliceOf (p := 0) (show At _ 0 _ from rfl); obtain ⟨L, hM, T⟩ := st_name ((S.call T0).perm List.perm_append_comm); clear T0; clear F S; replace HL := qNm HL hM; clear hM; have S := T; clear T; have F := qFc HL S))
    have hpl : ps.length = 3 := by rw [← List.length_map (f := smO), HPS.out]; exact h3
    have hne : (((ps.length : Nat) : Int) == 3) = true := by rw [beq_iff_eq]; omega
    have hne' : (((ps.length : Nat) : Int) != 3) = false := by rw [bne_eq_false_iff_eq]; omega
    clear hpl h3
    go_upto_region 3 with (first | refine qLb6 S ?_ | (go_at_call 42; refine (CO _ (HU.out.at_ S) (HV.out.at_ S)).mono ?_; rintro e w ⟨u, v, rfl, T0⟩; have hX := qcl HL S T0; clear F S HL T0; obtain ⟨L, HL, S, F⟩ := hX; obtain ⟨A', cap', rfl, hcap', hmax'⟩ := qSl HL S 0; obtain ⟨A', cap', rfl, hcap', hmax'⟩ := qSl HL S 1) | (refine qst HL S 3 ?_; clear F S HL; intro w L HL S F))
    clear CO CW
    go_wp2_with (first | refine qLb6 S ?_ | (go_at_call 43; refine qGr S (C_spec_SharedMatrixValid _ _ _ _ _ _ _ _ _ _ (by exact (Sees.row S qAt)) (by exact (Sees.row S qAt)) (by exact HXO.out)) ?_; clear S; intro w S) | (refine wpList_empty rfl S _ rfl 3 Tryz.underlying23 infoInt ?_; clear F S; intro gl w L hM S; replace HL := qNm HL hM; clear hM; have F := qFc HL S) | (refine qst HL S 2 ?_; clear F S HL; intro w L HL S F) | (refine qst HL S 3 ?_; clear F S HL; intro w L HL S F) | (refine qst HL S 4 ?_; clear F S HL; intro w L HL S F))
    first
      | (refine ret3 rfl (resCell S HL 2 rfl rfl (by kernel_rfl)) (show _ = _ from rfl) (show _ = _ from rfl) rfl ?_)
      | (refine ret3 rfl (resCell S HL 3 rfl rfl (by kernel_rfl)) (show _ = _ from rfl) (show _ = _ from rfl) rfl ?_)
      | (refine ret3 rfl (resCell S HL 4 rfl rfl (by kernel_rfl)) (show _ = _ from rfl) (show _ = _ from rfl) rfl ?_)
    exact ⟨_, _, _, rfl, by rw [HL.out] at S; exact ((S.nilRow 3 1).nilRow 3 1).sel (Sel.cons 2 rfl (Sel.cons 0 rfl (Sel.cons 0 rfl Sel.nil)))⟩
  | true =>
  cases bs with
  | false =>
    clear hu hv hw hn hsm hok hok' hbx hbs n1 n2
    obtain ⟨L, HL, S⟩ := st_start w0; have F : True := trivial
    go_enter Tryz.func11, Tryz.ntmps11
    go_upto_region 1 with (first | (refine qbd 4 HL S ?_; clear F S HL; intro gx w L HL S F) | (refine qal HL S zSMx ?_; clear F S HL; intro g6 w L HL S F))
    go_upto_region 2 with (first | (go_at_call 41; refine (CW _ (HW.out.at_ S)).mono ?_; rintro e w ⟨u, ps, rfl, hps, T0⟩; have HPS := Lib.hid hps; clear hps; obtain ⟨Au, cu, rfl, hcu, hmu⟩ := T0.sliceOf (p := 0) (show At _ 0 _ from rfl); obtain ⟨L, hM, T⟩ := st_name ((S.call T0).perm List.perm_append_comm); clear T0; clear F S; replace HL := qNm HL hM; clear hM; have S := T; clear T; have F := qFc HL S))
    have hpl : ps.length = 3 := by rw [← List.length_map (f := smO), HPS.out]; exact h3
    have hne : (((ps.length : Nat) : Int) == 3) = true := by rw [beq_iff_eq]; omega
    have hne' : (((ps.length : Nat) : Int) != 3) = false := by rw [bne_eq_false_iff_eq]; omega
    clear hpl h3
    go_upto_region 3 with (first | refine qLb6 S ?_ | (go_at_call 42; refine (CO _ (HU.out.at_ S) (HV.out.at_ S)).mono ?_; rintro e w ⟨u, v, rfl, T0⟩; have hX := qcl HL S T0; clear F S HL T0; obtain ⟨L, HL, S, F⟩ := hX; obtain ⟨A', cap', rfl, hcap', hmax'⟩ := qSl HL S 0; obtain ⟨A', cap', rfl, hcap', hmax'⟩ := qSl HL S 1) | (refine qst HL S 3 ?_; clear F S HL; intro w L HL S F))
    clear CO CW
    go_wp2_with (first | refine qLb6 S ?_ | (go_at_call 44; refine qPu (CV _) ?_) | (go_at_call 43; refine qGr S (C_spec_SharedMatrixValid _ _ _ _ _ _ _ _ _ _ (by exact (Sees.row S qAt)) (by exact (Sees.row S qAt)) (by exact HXO.out)) ?_; clear S; intro w S) | (refine wpList_empty rfl S _ rfl 3 Tryz.underlying23 infoInt ?_; clear F S; intro gl w L hM S; replace HL := qNm HL hM; clear hM; have F := qFc HL S) | (refine qst HL S 2 ?_; clear F S HL; intro w L HL S F) | (refine qst HL S 3 ?_; clear F S HL; intro w L HL S F) | (refine qst HL S 4 ?_; clear F S HL; intro w L HL S F))
    first
      | (refine ret3 rfl (resCell S HL 2 rfl rfl (by kernel_rfl)) (show _ = _ from rfl) (show _ = _ from rfl) rfl ?_)
      | (refine ret3 rfl (resCell S HL 3 rfl rfl (by kernel_rfl)) (show _ = _ from rfl) (show _ = _ from rfl) rfl ?_)
      | (refine ret3 rfl (resCell S HL 4 rfl rfl (by kernel_rfl)) (show _ = _ from rfl) (show _ = _ from rfl) rfl ?_)
    exact ⟨_, _, _, rfl, by rw [HL.out] at S; exact ((S.nilRow 3 1).nilRow 3 1).sel (Sel.cons 2 rfl (Sel.cons 0 rfl (Sel.cons 0 rfl Sel.nil)))⟩
  | true =>
  match ws, h3 with
  | [a, b, c], _ =>
  have HNOT : Hid ((mixFitS x a && (mixFitS x b && (mixFitS x c && true))) = false) := Lib.hid (by simpa using hok')
  clear hu hv hw hn hsm hok hok' hbx hbs n1 n2
  obtain ⟨L, HL, S⟩ := st_start w0; have F : True := trivial
  go_enter Tryz.func11, Tryz.ntmps11
  go_upto_region 1 with (first | (refine qbd 4 HL S ?_; clear F S HL; intro gx w L HL S F) | (refine qal HL S zSMx ?_; clear F S HL; intro g6 w L HL S F))
  go_upto_region 2 with (first | (go_at_call 41; refine (CW _ (HW.out.at_ S)).mono ?_; rintro e w ⟨tw, ps, rfl, hps, T0⟩; obtain ⟨wa, wb, xa, xb, ya, yb, rfl⟩ := threeSm hps; obtain ⟨L, hM, T⟩ := st_name (show St w0 w (.row 32 6 tw 3 [.int .i64 a.a.r, .int .i64 a.a.c, wa, .int .i64 a.b.r, .int .i64 a.b.c, wb, .int .i64 b.a.r, .int .i64 b.a.c, xa, .int .i64 b.b.r, .int .i64 b.b.c, xb, .int .i64 c.a.r, .int .i64 c.a.c, ya, .int .i64 c.b.r, .int .i64 c.b.c, yb] :: .row 3 1 wa a.a.xs.length (ints a.a.xs) :: .row 3 1 wb a.b.xs.length (ints a.b.xs) :: .row 3 1 xa b.a.xs.length (ints b.a.xs) :: .row 3 1 xb b.b.xs.length (ints b.b.xs) :: .row 3 1 ya c.a.xs.length (ints c.a.xs) :: .row 3 1 yb c.b.xs.length (ints c.b.xs) :: _) from S.call T0); clear T0; clear F S; replace HL := qNm HL hM; clear hM; have S := T; clear T; have F := qFc HL S))
  obtain ⟨gw, cw, rfl, hcw, hmw⟩ := S.rowAt (p := 0) (atOf HL rfl) (by omega)
  go_upto_region 3 with (first | refine qLb6 S ?_ | (go_at_call 42; refine (CO _ (HU.out.at_ S) (HV.out.at_ S)).mono ?_; rintro e w ⟨u, v, rfl, T0⟩; have hX := qcl HL S T0; clear F S HL T0; obtain ⟨L, HL, S, F⟩ := hX; obtain ⟨A', cap', rfl, hcap', hmax'⟩ := qSl HL S 0; obtain ⟨A', cap', rfl, hcap', hmax'⟩ := qSl HL S 1) | (refine qst HL S 10 ?_; clear F S HL; intro w L HL S F))
  clear CO CW
  go_upto_region 5 with (first | refine qLb6 S ?_ | (go_at_call 44; refine qPu (CV _) ?_) | (go_at_call 43; refine qGr S (C_spec_SharedMatrixValid _ _ _ _ _ _ _ _ _ _ (by exact (Sees.row S qAt)) (by exact (Sees.row S qAt)) (by exact HXO.out)) ?_; clear S; intro w S))
  clear CV
  go_wp2
  go_loopw [9] (fun i wr => ∃ (q : Nat), q ≤ 3 ∧ i = .int .i64 q ∧ Hid ((0 < q → mixFitS x a = true) ∧ (1 < q → mixFitS x b = true) ∧ (2 < q → mixFitS x c = true)) ∧ St w0 wr L) (fun i _ => 3 - (intOf i).toNat)
  case atStart => exact ⟨0, by omega, rfl, Lib.hid ⟨fun h => absurd h (by omega), fun h => absurd h (by omega), fun h => absurd h (by omega)⟩, S⟩
  case round =>
    clear S
    obtain ⟨q, hq, rfl, HQ, S⟩ := hrel
    by_cases hlt : q < 3
    · have e3 : q = 0 ∨ q = 1 ∨ q = 2 := by omega
      rcases e3 with rfl | rfl | rfl
      · cases hm : a.ok with
        | false =>
          have HM := Lib.hid hm
          have f0 := fun w' (S' : St w0 w' L) => (S'.rowCell (p := 2) (atOf HL rfl) 0 (by omega)).trans (show _ = some (Value.int .i64 a.a.r) from rfl)
          have f1 := fun w' (S' : St w0 w' L) => (S'.rowCell (p := 2) (atOf HL rfl) 1 (by omega)).trans (show _ = some (Value.int .i64 a.a.c) from rfl)
          clear hm
          go_upto_region 8 with fail
          have HL0 := HL; have F0 := F; refine wp_region_tree (S := fun w' => St w0 w' L) (qcs 0 4 (.act 4 (qcs 5 25 .fin) .stop)) (by kernel_rfl) (by kernel_rfl) (by kernel_rfl) (by intro c a d v w h; cases d <;> exact h) ?_; dsimp only [qcs, Nat.reduceAdd]; replace S := S.drew
          repeat (first | refine qTb6 ?_ | refine qTr6 ?_ | refine qCa ?_ | refine qAn ?_ | refine qSk ?_ | (refine tree_act rfl rfl ?_ tree_stop; intro K hK; go_wp2_with (first | (go_at_call 43; refine qGr S (C_spec_SharedMatrixValid _ _ _ _ _ _ _ _ _ _ (by exact (Sees.row S qAt)) (by exact (Sees.row S qAt)) (by exact HM.out)) ?_; clear S; intro w S)); (refine qKo hK ?_; clear hK K)))
          refine tree_fin ?_
          go_wp2_with (first | (refine wpList_empty rfl S _ rfl 3 Tryz.underlying23 infoInt ?_; clear F S; intro gl w L hM S; replace HL := qNm HL hM; clear hM; have F := qFc HL S) | (refine qst HL S 9 ?_; clear F S HL; intro w L HL S F) | (refine qst HL S 10 ?_; clear F S HL; intro w L HL S F) | (refine qst HL S 11 ?_; clear F S HL; intro w L HL S F))
          first
            | (refine ret3 rfl (resCell S HL 9 rfl rfl (by kernel_rfl)) (show _ = _ from rfl) (show _ = _ from rfl) rfl ?_)
            | (refine ret3 rfl (resCell S HL 10 rfl rfl (by kernel_rfl)) (show _ = _ from rfl) (show _ = _ from rfl) rfl ?_)
            | (refine ret3 rfl (resCell S HL 11 rfl rfl (by kernel_rfl)) (show _ = _ from rfl) (show _ = _ from rfl) rfl ?_)
          exact ⟨_, _, _, rfl, by rw [HL.out] at S; exact ((S.nilRow 3 1).nilRow 3 1).sel (Sel.cons 2 rfl (Sel.cons 0 rfl (Sel.cons 0 rfl Sel.nil)))⟩
        | true =>
        have HM := Lib.hid hm
        by_cases hm1 : a.a.r = x.a.c
        rotate_left
        · have hne : (a.a.r == x.a.c) = false := by rw [beq_eq_false_iff_ne]; exact hm1
          have hne' : (a.a.r != x.a.c) = true := by rw [bne_iff_ne]; exact hm1
          have f0 := fun w' (S' : St w0 w' L) => (S'.rowCell (p := 2) (atOf HL rfl) 0 (by omega)).trans (show _ = some (Value.int .i64 a.a.r) from rfl)
          have f1 := fun w' (S' : St w0 w' L) => (S'.rowCell (p := 2) (atOf HL rfl) 1 (by omega)).trans (show _ = some (Value.int .i64 a.a.c) from rfl)
          clear hm hm1
          go_upto_region 8 with fail
          have HL0 := HL; have F0 := F; refine wp_region_tree (S := fun w' => St w0 w' L) (qcs 0 4 (.act 4 (qcs 5 25 .fin) .stop)) (by kernel_rfl) (by kernel_rfl) (by kernel_rfl) (by intro c a d v w h; cases d <;> exact h) ?_; dsimp only [qcs, Nat.reduceAdd]; replace S := S.drew
          repeat (first | refine qTb6 ?_ | refine qTr6 ?_ | refine qCa ?_ | refine qAn ?_ | refine qSk ?_ | (refine tree_act rfl rfl ?_ tree_stop; intro K hK; go_wp2_with (first | (go_at_call 43; refine qGr S (C_spec_SharedMatrixValid _ _ _ _ _ _ _ _ _ _ (by exact (Sees.row S qAt)) (by exact (Sees.row S qAt)) (by exact HM.out)) ?_; clear S; intro w S)); (refine qKo hK ?_; clear hK K)))
          refine tree_fin ?_
          go_wp2_with (first | (refine wpList_empty rfl S _ rfl 3 Tryz.underlying23 infoInt ?_; clear F S; intro gl w L hM S; replace HL := qNm HL hM; clear hM; have F := qFc HL S) | (refine qst HL S 9 ?_; clear F S HL; intro w L HL S F) | (refine qst HL S 10 ?_; clear F S HL; intro w L HL S F) | (refine qst HL S 11 ?_; clear F S HL; intro w L HL S F))
          first
            | (refine ret3 rfl (resCell S HL 9 rfl rfl (by kernel_rfl)) (show _ = _ from rfl) (show _ = _ from rfl) rfl ?_)
            | (refine ret3 rfl (resCell S HL 10 rfl rfl (by kernel_rfl)) (show _ = _ from rfl) (show _ = _ from rfl) rfl ?_)
            | (refine ret3 rfl (resCell S HL 11 rfl rfl (by kernel_rfl)) (show _ = _ from rfl) (show _ = _ from rfl) rfl ?_)
          exact ⟨_, _, _, rfl, by rw [HL.out] at S; exact ((S.nilRow 3 1).nilRow 3 1).sel (Sel.cons 2 rfl (Sel.cons 0 rfl (Sel.cons 0 rfl Sel.nil)))⟩
        by_cases hm2 : a.a.c = x.a.c
        rotate_left
        · have hne : (a.a.c == x.a.c) = false := by rw [beq_eq_false_iff_ne]; exact hm2
          have hne' : (a.a.c != x.a.c) = true := by rw [bne_iff_ne]; exact hm2
          have f0 := fun w' (S' : St w0 w' L) => (S'.rowCell (p := 2) (atOf HL rfl) 0 (by omega)).trans (show _ = some (Value.int .i64 x.a.c) by rw [← hm1]; rfl)
          have f1 := fun w' (S' : St w0 w' L) => (S'.rowCell (p := 2) (atOf HL rfl) 1 (by omega)).trans (show _ = some (Value.int .i64 a.a.c) from rfl)
          clear hm hm1 hm2
          go_upto_region 8 with fail
          have HL0 := HL; have F0 := F; refine wp_region_tree (S := fun w' => St w0 w' L) (qcs 0 4 (.act 4 (qcs 5 25 .fin) .stop)) (by kernel_rfl) (by kernel_rfl) (by kernel_rfl) (by intro c a d v w h; cases d <;> exact h) ?_; dsimp only [qcs, Nat.reduceAdd]; replace S := S.drew
          repeat (first | refine qTb6 ?_ | refine qTr6 ?_ | refine qCa ?_ | refine qAn ?_ | refine qSk ?_ | (refine tree_act rfl rfl ?_ tree_stop; intro K hK; go_wp2_with (first | (go_at_call 43; refine qGr S (C_spec_SharedMatrixValid _ _ _ _ _ _ _ _ _ _ (by exact (Sees.row S qAt)) (by exact (Sees.row S qAt)) (by exact HM.out)) ?_; clear S; intro w S)); (refine qKo hK ?_; clear hK K)))
          refine tree_fin ?_
          go_wp2_with (first | (refine wpList_empty rfl S _ rfl 3 Tryz.underlying23 infoInt ?_; clear F S; intro gl w L hM S; replace HL := qNm HL hM; clear hM; have F := qFc HL S) | (refine qst HL S 9 ?_; clear F S HL; intro w L HL S F) | (refine qst HL S 10 ?_; clear F S HL; intro w L HL S F) | (refine qst HL S 11 ?_; clear F S HL; intro w L HL S F))
          first
            | (refine ret3 rfl (resCell S HL 9 rfl rfl (by kernel_rfl)) (show _ = _ from rfl) (show _ = _ from rfl) rfl ?_)
            | (refine ret3 rfl (resCell S HL 10 rfl rfl (by kernel_rfl)) (show _ = _ from rfl) (show _ = _ from rfl) rfl ?_)
            | (refine ret3 rfl (resCell S HL 11 rfl rfl (by kernel_rfl)) (show _ = _ from rfl) (show _ = _ from rfl) rfl ?_)
          exact ⟨_, _, _, rfl, by rw [HL.out] at S; exact ((S.nilRow 3 1).nilRow 3 1).sel (Sel.cons 2 rfl (Sel.cons 0 rfl (Sel.cons 0 rfl Sel.nil)))⟩
        have hfit : mixFitS x a = true := by
          show (a.ok && decide (a.a.r = a.a.c) && decide (a.a.c = x.a.c)) = true
          rw [hm, decide_eq_true (hm1.trans hm2.symm), decide_eq_true hm2]
          rfl
        have HN1 := Lib.hid (show (0 < 1 → mixFitS x a = true) ∧ (1 < 1 → mixFitS x b = true) ∧ (2 < 1 → mixFitS x c = true) from ⟨fun _ => hfit, fun h => absurd h (by omega), fun h => absurd h (by omega)⟩)
        have f0 := fun w' (S' : St w0 w' L) => (S'.rowCell (p := 2) (atOf HL rfl) 0 (by omega)).trans (show _ = some (Value.int .i64 x.a.c) by rw [← hm1]; rfl)
        have f1 := fun w' (S' : St w0 w' L) => (S'.rowCell (p := 2) (atOf HL rfl) 1 (by omega)).trans (show _ = some (Value.int .i64 x.a.c) by rw [← hm2]; rfl)
        clear hm hm1 hm2 hfit
        go_upto_region 8 with fail
        have HL0 := HL; have F0 := F; refine wp_region_tree (S := fun w' => St w0 w' L) (qcs 0 4 (.act 4 (qcs 5 25 .fin) .stop)) (by kernel_rfl) (by kernel_rfl) (by kernel_rfl) (by intro c a d v w h; cases d <;> exact h) ?_; dsimp only [qcs, Nat.reduceAdd]; replace S := S.drew
        repeat (first | refine qTb6 ?_ | refine qTr6 ?_ | refine qCa ?_ | refine qAn ?_ | refine qSk ?_ | (refine tree_act rfl rfl ?_ tree_stop; intro K hK; go_wp2_with (first | (go_at_call 43; refine qGr S (C_spec_SharedMatrixValid _ _ _ _ _ _ _ _ _ _ (by exact (Sees.row S qAt)) (by exact (Sees.row S qAt)) (by exact HM.out)) ?_; clear S; intro w S)); (refine qKo hK ?_; clear hK K)))
        refine tree_fin ?_
        go_wp2
        go_roundw
        case rel => exact ⟨1, by omega, by go_num, HN1, S⟩
        case measure => simp [intOf]
      · cases hm : b.ok with
        | false =>
          have HM := Lib.hid hm
          have f0 := fun w' (S' : St w0 w' L) => (S'.rowCell (p := 2) (atOf HL rfl) 6 (by omega)).trans (show _ = some (Value.int .i64 b.a.r) from rfl)
          have f1 := fun w' (S' : St w0 w' L) => (S'.rowCell (p := 2) (atOf HL rfl) 7 (by omega)).trans (show _ = some (Value.int .i64 b.a.c) from rfl)
          clear hm
          go_upto_region 8 with fail
          have HL0 := HL; have F0 := F; refine wp_region_tree (S := fun w' => St w0 w' L) (qcs 0 4 (.act 4 (qcs 5 25 .fin) .stop)) (by kernel_rfl) (by kernel_rfl) (by kernel_rfl) (by intro c a d v w h; cases d <;> exact h) ?_; dsimp only [qcs, Nat.reduceAdd]; replace S := S.drew
          repeat (first | refine qTb6 ?_ | refine qTr6 ?_ | refine qCa ?_ | refine qAn ?_ | refine qSk ?_ | (refine tree_act rfl rfl ?_ tree_stop; intro K hK; go_wp2_with (first | (go_at_call 43; refine qGr S (C_spec_SharedMatrixValid _ _ _ _ _ _ _ _ _ _ (by exact (Sees.row S qAt)) (by exact (Sees.row S qAt)) (by exact HM.out)) ?_; clear S; intro w S)); (refine qKo hK ?_; clear hK K)))
          refine tree_fin ?_
          go_wp2_with (first | (refine wpList_empty rfl S _ rfl 3 Tryz.underlying23 infoInt ?_; clear F S; intro gl w L hM S; replace HL := qNm HL hM; clear hM; have F := qFc HL S) | (refine qst HL S 9 ?_; clear F S HL; intro w L HL S F) | (refine qst HL S 10 ?_; clear F S HL; intro w L HL S F) | (refine qst HL S 11 ?_; clear F S HL; intro w L HL S F))
          first
            | (refine ret3 rfl (resCell S HL 9 rfl rfl (by kernel_rfl)) (show _ = _ from rfl) (show _ = _ from rfl) rfl ?_)
            | (refine ret3 rfl (resCell S HL 10 rfl rfl (by kernel_rfl)) (show _ = _ from rfl) (show _ = _ from rfl) rfl ?_)
            | (refine ret3 rfl (resCell S HL 11 rfl rfl (by kernel_rfl)) (show _ = _ from rfl) (show _ = _ from rfl) rfl ?_)
          exact ⟨_, _, _, rfl, by rw [HL.out] at S; exact ((S.nilRow 3 1).nilRow 3 1).sel (Sel.cons 2 rfl (Sel.cons 0 rfl (Sel.cons 0 rfl Sel.nil)))⟩
        | true =>
        have HM := Lib.hid hm
        by_cases hm1 : b.a.r = x.a.c
        rotate_left
        · have hne : (b.a.r == x.a.c) = false := by rw [beq_eq_false_iff_ne]; exact hm1
          have hne' : (b.a.r != x.a.c) = true := by rw [bne_iff_ne]; exact hm1
          have f0 := fun w' (S' : St w0 w' L) => (S'.rowCell (p := 2) (atOf HL rfl) 6 (by omega)).trans (show _ = some (Value.int .i64 b.a.r) from rfl)
          have f1 := fun w' (S' : St w0 w' L) => (S'.rowCell (p := 2) (atOf HL rfl) 7 (by omega)).trans (show _ = some (Value.int .i64 b.a.c) from rfl)
          clear hm hm1
          go_upto_region 8 with fail
          have HL0 := HL; have F0 := F; refine wp_region_tree (S := fun w' => St w0 w' L) (qcs 0 4 (.act 4 (qcs 5 25 .fin) .stop)) (by kernel_rfl) (by kernel_rfl) (by kernel_rfl) (by intro c a d v w h; cases d <;> exact h) ?_; dsimp only [qcs, Nat.reduceAdd]; replace S := S.drew
          repeat (first | refine qTb6 ?_ | refine qTr6 ?_ | refine qCa ?_ | refine qAn ?_ | refine qSk ?_ | (refine tree_act rfl rfl ?_ tree_stop; intro K hK; go_wp2_with (first | (go_at_call 43; refine qGr S (C_spec_SharedMatrixValid _ _ _ _ _ _ _ _ _ _ (by exact (Sees.row S qAt)) (by exact (Sees.row S qAt)) (by exact HM.out)) ?_; clear S; intro w S)); (refine qKo hK ?_; clear hK K)))
          refine tree_fin ?_
          go_wp2_with (first | (refine wpList_empty rfl S _ rfl 3 Tryz.underlying23 infoInt ?_; clear F S; intro gl w L hM S; replace HL := qNm HL hM; clear hM; have F := qFc HL S) | (refine qst HL S 9 ?_; clear F S HL; intro w L HL S F) | (refine qst HL S 10 ?_; clear F S HL; intro w L HL S F) | (refine qst HL S 11 ?_; clear F S HL; intro w L HL S F))
          first
            | (refine ret3 rfl (resCell S HL 9 rfl rfl (by kernel_rfl)) (show _ = _ from rfl) (show _ = _ from rfl) rfl ?_)
            | (refine ret3 rfl (resCell S HL 10 rfl rfl (by kernel_rfl)) (show _ = _ from rfl) (show _ = _ from rfl) rfl ?_)
            | (refine ret3 rfl (resCell S HL 11 rfl rfl (by kernel_rfl)) (show _ = _ from rfl) (show _ = _ from rfl) rfl ?_)
          exact ⟨_, _, _, rfl, by rw [HL.out] at S; exact ((S.nilRow 3 1).nilRow 3 1).sel (Sel.cons 2 rfl (Sel.cons 0 rfl (Sel.cons 0 rfl Sel.nil)))⟩
        by_cases hm2 : b.a.c = x.a.c
        rotate_left
        · have hne : (b.a.c == x.a.c) = false := by rw [beq_eq_false_iff_ne]; exact hm2
          have hne' : (b.a.c != x.a.c) = true := by rw [bne_iff_ne]; exact hm2
          have f0 := fun w' (S' : St w0 w' L) => (S'.rowCell (p := 2) (atOf HL rfl) 6 (by omega)).trans (show _ = some (Value.int .i64 x.a.c) by rw [← hm1]; rfl)
          have f1 := fun w' (S' : St w0 w' L) => (S'.rowCell (p := 2) (atOf HL rfl) 7 (by omega)).trans (show _ = some (Value.int .i64 b.a.c) from rfl)
          clear hm hm1 hm2
          go_upto_region 8 with fail
          have HL0 := HL; have F0 := F; refine wp_region_tree (S := fun w' => St w0 w' L) (qcs 0 4 (.act 4 (qcs 5 25 .fin) .stop)) (by kernel_rfl) (by kernel_rfl) (by kernel_rfl) (by intro c a d v w h; cases d <;> exact h) ?_; dsimp only [qcs, Nat.reduceAdd]; replace S := S.drew
          repeat (first | refine qTb6 ?_ | refine qTr6 ?_ | refine qCa ?_ | refine qAn ?_ | refine qSk ?_ | (refine tree_act rfl rfl ?_ tree_stop; intro K hK; go_wp2_with (first | (go_at_call 43; refine qGr S (C_spec_SharedMatrixValid _ _ _ _ _ _ _ _ _ _ (by exact (Sees.row S qAt)) (by exact (Sees.row S qAt)) (by exact HM.out)) ?_; clear S; intro w S)); (refine qKo hK ?_; clear hK K)))
          refine tree_fin ?_
          go_wp2_with (first | (refine wpList_empty rfl S _ rfl 3 Tryz.underlying23 infoInt ?_; clear F S; intro gl w L hM S; replace HL := qNm HL hM; clear hM; have F := qFc HL S) | (refine qst HL S 9 ?_; clear F S HL; intro w L HL S F) | (refine qst HL S 10 ?_; clear F S HL; intro w L HL S F) | (refine qst HL S 11 ?_; clear F S HL; intro w L HL S F))
          first
            | (refine ret3 rfl (resCell S HL 9 rfl rfl (by kernel_rfl)) (show _ = _ from rfl) (show _ = _ from rfl) rfl ?_)
            | (refine ret3 rfl (resCell S HL 10 rfl rfl (by kernel_rfl)) (show _ = _ from rfl) (show _ = _ from rfl) rfl ?_)
            | (refine ret3 rfl (resCell S HL 11 rfl rfl (by kernel_rfl)) (show _ = _ from rfl) (show _ = _ from rfl) rfl ?_)
          exact ⟨_, _, _, rfl, by rw [HL.out] at S; exact ((S.nilRow 3 1).nilRow 3 1).sel (Sel.cons 2 rfl (Sel.cons 0 rfl (Sel.cons 0 rfl Sel.nil)))⟩
        have hfit : mixFitS x b = true := by
          show (b.ok && decide (b.a.r = b.a.c) && decide (b.a.c = x.a.c)) = true
          rw [hm, decide_eq_true (hm1.trans hm2.symm), decide_eq_true hm2]
          rfl
        have HN1 := Lib.hid (show (0 < 2 → mixFitS x a = true) ∧ (1 < 2 → mixFitS x b = true) ∧ (2 < 2 → mixFitS x c = true) from ⟨fun _ => HQ.out.1 (by omega), fun _ => hfit, fun h => absurd h (by omega)⟩)
        have f0 := fun w' (S' : St w0 w' L) => (S'.rowCell (p := 2) (atOf HL rfl) 6 (by omega)).trans (show _ = some (Value.int .i64 x.a.c) by rw [← hm1]; rfl)
        have f1 := fun w' (S' : St w0 w' L) => (S'.rowCell (p := 2) (atOf HL rfl) 7 (by omega)).trans (show _ = some (Value.int .i64 x.a.c) by rw [← hm2]; rfl)
        clear hm hm1 hm2 hfit
        go_upto_region 8 with fail
        have HL0 := HL; have F0 := F; refine wp_region_tree (S := fun w' => St w0 w' L) (qcs 0 4 (.act 4 (qcs 5 25 .fin) .stop)) (by kernel_rfl) (by kernel_rfl) (by kernel_rfl) (by intro c a d v w h; cases d <;> exact h) ?_; dsimp only [qcs, Nat.reduceAdd]; replace S := S.drew
        repeat (first | refine qTb6 ?_ | refine qTr6 ?_ | refine qCa ?_ | refine qAn ?_ | refine qSk ?_ | (refine tree_act rfl rfl ?_ tree_stop; intro K hK; go_wp2_with (first | (go_at_call 43; refine qGr S (C_spec_SharedMatrixValid _ _ _ _ _ _ _ _ _ _ (by exact (Sees.row S qAt)) (by exact (Sees.row S qAt)) (by exact HM.out)) ?_; clear S; intro w S)); (refine qKo hK ?_; clear hK K)))
        refine tree_fin ?_
        go_wp2
        go_roundw
        case rel => exact ⟨2, by omega, by go_num, HN1, S⟩
        case measure => simp [intOf]
      · cases hm : c.ok with
        | false =>
          have HM := Lib.hid hm
          have f0 := fun w' (S' : St w0 w' L) => (S'.rowCell (p := 2) (atOf HL rfl) 12 (by omega)).trans (show _ = some (Value.int .i64 c.a.r) from rfl)
          have f1 := fun w' (S' : St w0 w' L) => (S'.rowCell (p := 2) (atOf HL rfl) 13 (by omega)).trans (show _ = some (Value.int .i64 c.a.c) from rfl)
          clear hm
          go_upto_region 8 with fail
          have HL0 := HL; have F0 := F; refine wp_region_tree (S := fun w' => St w0 w' L) (qcs 0 4 (.act 4 (qcs 5 25 .fin) .stop)) (by kernel_rfl) (by kernel_rfl) (by kernel_rfl) (by intro c a d v w h; cases d <;> exact h) ?_; dsimp only [qcs, Nat.reduceAdd]; replace S := S.drew
          repeat (first | refine qTb6 ?_ | refine qTr6 ?_ | refine qCa ?_ | refine qAn ?_ | refine qSk ?_ | (refine tree_act rfl rfl ?_ tree_stop; intro K hK; go_wp2_with (first | (go_at_call 43; refine qGr S (C_spec_SharedMatrixValid _ _ _ _ _ _ _ _ _ _ (by exact (Sees.row S qAt)) (by exact (Sees.row S qAt)) (by exact HM.out)) ?_; clear S; intro w S)); (refine qKo hK ?_; clear hK K)))
          refine tree_fin ?_
          go_wp2_with (first | (refine wpList_empty rfl S _ rfl 3 Tryz.underlying23 infoInt ?_; clear F S; intro gl w L hM S; replace HL := qNm HL hM; clear hM; have F := qFc HL S) | (refine qst HL S 9 ?_; clear F S HL; intro w L HL S F) | (refine qst HL S 10 ?_; clear F S HL; intro w L HL S F) | (refine qst HL S 11 ?_; clear F S HL; intro w L HL S F))
          first
            | (refine ret3 rfl (resCell S HL 9 rfl rfl (by kernel_rfl)) (show _ = _ from rfl) (show _ = _ from rfl) rfl ?_)
            | (refine ret3 rfl (resCell S HL 10 rfl rfl (by kernel_rfl)) (show _ = _ from rfl) (show _ = _ from rfl) rfl ?_)
            | (refine ret3 rfl (resCell S HL 11 rfl rfl (by kernel_rfl)) (show _ = _ from rfl) (show _ = _ from rfl) rfl ?_)
          exact ⟨_, _, _, rfl, by rw [HL.out] at S; exact ((S.nilRow 3 1).nilRow 3 1).sel (Sel.cons 2 rfl (Sel.cons 0 rfl (Sel.cons 0 rfl Sel.nil)))⟩
        | true =>
        have HM := Lib.hid hm
        by_cases hm1 : c.a.r = x.a.c
        rotate_left
        · have hne : (c.a.r == x.a.c) = false := by rw [beq_eq_false_iff_ne]; exact hm1
          have hne' : (c.a.r != x.a.c) = true := by rw [bne_iff_ne]; exact hm1
          have f0 := fun w' (S' : St w0 w' L) => (S'.rowCell (p := 2) (atOf HL rfl) 12 (by omega)).trans (show _ = some (Value.int .i64 c.a.r) from rfl)
          have f1 := fun w' (S' : St w0 w' L) => (S'.rowCell (p := 2) (atOf HL rfl) 13 (by omega)).trans (show _ = some (Value.int .i64 c.a.c) from rfl)
          clear hm hm1
          go_upto_region 8 with fail
          have HL0 := HL; have F0 := F; refine wp_region_tree (S := fun w' => St w0 w' L) (qcs 0 4 (.act 4 (qcs 5 25 .fin) .stop)) (by kernel_rfl) (by kernel_rfl) (by kernel_rfl) (by intro c a d v w h; cases d <;> exact h) ?_; dsimp only [qcs, Nat.reduceAdd]; replace S := S.drew
          repeat (first | refine qTb6 ?_ | refine qTr6 ?_ | refine qCa ?_ | refine qAn ?_ | refine qSk ?_ | (refine tree_act rfl rfl ?_ tree_stop; intro K hK; go_wp2_with (first | (go_at_call 43; refine qGr S (C_spec_SharedMatrixValid _ _ _ _ _ _ _ _ _ _ (by exact (Sees.row S qAt)) (by exact (Sees.row S qAt)) (by exact HM.out)) ?_; clear S; intro w S)); (refine qKo hK ?_; clear hK K)))
          refine tree_fin ?_
          go_wp2_with (first | (refine wpList_empty rfl S _ rfl 3 Tryz.underlying23 infoInt ?_; clear F S; intro gl w L hM S; replace HL := qNm HL hM; clear hM; have F := qFc HL S) | (refine qst HL S 9 ?_; clear F S HL; intro w L HL S F) | (refine qst HL S 10 ?_; clear F S HL; intro w L HL S F) | (refine qst HL S 11 ?_; clear F S HL; intro w L HL S F))
          first
            | (refine ret3 rfl (resCell S HL 9 rfl rfl (by kernel_rfl)) (show _ = _ from rfl) (show _ = _ from rfl) rfl ?_)
            | (refine ret3 rfl (resCell S HL 10 rfl rfl (by kernel_rfl)) (show _ = _ from rfl) (show _ = _ from rfl) rfl ?_)
            | (refine ret3 rfl (resCell S HL 11 rfl rfl (by kernel_rfl)) (show _ = _ from rfl) (show _ = _ from rfl) rfl ?_)
          exact ⟨_, _, _, rfl, by rw [HL.out] at S; exact ((S.nilRow 3 1).nilRow 3 1).sel (Sel.cons 2 rfl (Sel.cons 0 rfl (Sel.cons 0 rfl Sel.nil)))⟩
        by_cases hm2 : c.a.c = x.a.c
        rotate_left
        · have hne : (c.a.c == x.a.c) = false := by rw [beq_eq_false_iff_ne]; exact hm2
          have hne' : (c.a.c != x.a.c) = true := by rw [bne_iff_ne]; exact hm2
          have f0 := fun w' (S' : St w0 w' L) => (S'.rowCell (p := 2) (atOf HL rfl) 12 (by omega)).trans (show _ = some (Value.int .i64 x.a.c) by rw [← hm1]; rfl)
          have f1 := fun w' (S' : St w0 w' L) => (S'.rowCell (p := 2) (atOf HL rfl) 13 (by omega)).trans (show _ = some (Value.int .i64 c.a.c) from rfl)
          clear hm hm1 hm2
          go_upto_region 8 with fail
          have HL0 := HL; have F0 := F; refine wp_region_tree (S := fun w' => St w0 w' L) (qcs 0 4 (.act 4 (qcs 5 25 .fin) .stop)) (by kernel_rfl) (by kernel_rfl) (by kernel_rfl) (by intro c a d v w h; cases d <;> exact h) ?_; dsimp only [qcs, Nat.reduceAdd]; replace S := S.drew
          repeat (first | refine qTb6 ?_ | refine qTr6 ?_ | refine qCa ?_ | refine qAn ?_ | refine qSk ?_ | (refine tree_act rfl rfl ?_ tree_stop; intro K hK; go_wp2_with (first | (go_at_call 43; refine qGr S (C_spec_SharedMatrixValid _ _ _ _ _ _ _ _ _ _ (by exact (Sees.row S qAt)) (by exact (Sees.row S qAt)) (by exact HM.out)) ?_; clear S; intro w S)); (refine qKo hK ?_; clear hK K)))
          refine tree_fin ?_
          go_wp2_with (first | (refine wpList_empty rfl S _ rfl 3 Tryz.underlying23 infoInt ?_; clear F S; intro gl w L hM S; replace HL := qNm HL hM; clear hM; have F := qFc HL S) | (refine qst HL S 9 ?_; clear F S HL; intro w L HL S F) | (refine qst HL S 10 ?_; clear F S HL; intro w L HL S F) | (refine qst HL S 11 ?_; clear F S HL; intro w L HL S F))
          first
            | (refine ret3 rfl (resCell S HL 9 rfl rfl (by kernel_rfl)) (show _ = _ from rfl) (show _ = _ from rfl) rfl ?_)
            | (refine ret3 rfl (resCell S HL 10 rfl rfl (by kernel_rfl)) (show _ = _ from rfl) (show _ = _ from rfl) rfl ?_)
            | (refine ret3 rfl (resCell S HL 11 rfl rfl (by kernel_rfl)) (show _ = _ from rfl) (show _ = _ from rfl) rfl ?_)
          exact ⟨_, _, _, rfl, by rw [HL.out] at S; exact ((S.nilRow 3 1).nilRow 3 1).sel (Sel.cons 2 rfl (Sel.cons 0 rfl (Sel.cons 0 rfl Sel.nil)))⟩
        have hfit : mixFitS x c = true := by
          show (c.ok && decide (c.a.r = c.a.c) && decide (c.a.c = x.a.c)) = true
          rw [hm, decide_eq_true (hm1.trans hm2.symm), decide_eq_true hm2]
          rfl
        have HN1 := Lib.hid (show (0 < 3 → mixFitS x a = true) ∧ (1 < 3 → mixFitS x b = true) ∧ (2 < 3 → mixFitS x c = true) from ⟨fun _ => HQ.out.1 (by omega), fun _ => HQ.out.2.1 (by omega), fun _ => hfit⟩)
        have f0 := fun w' (S' : St w0 w' L) => (S'.rowCell (p := 2) (atOf HL rfl) 12 (by omega)).trans (show _ = some (Value.int .i64 x.a.c) by rw [← hm1]; rfl)
        have f1 := fun w' (S' : St w0 w' L) => (S'.rowCell (p := 2) (atOf HL rfl) 13 (by omega)).trans (show _ = some (Value.int .i64 x.a.c) by rw [← hm2]; rfl)
        clear hm hm1 hm2 hfit
        go_upto_region 8 with fail
        have HL0 := HL; have F0 := F; refine wp_region_tree (S := fun w' => St w0 w' L) (qcs 0 4 (.act 4 (qcs 5 25 .fin) .stop)) (by kernel_rfl) (by kernel_rfl) (by kernel_rfl) (by intro c a d v w h; cases d <;> exact h) ?_; dsimp only [qcs, Nat.reduceAdd]; replace S := S.drew
        repeat (first | refine qTb6 ?_ | refine qTr6 ?_ | refine qCa ?_ | refine qAn ?_ | refine qSk ?_ | (refine tree_act rfl rfl ?_ tree_stop; intro K hK; go_wp2_with (first | (go_at_call 43; refine qGr S (C_spec_SharedMatrixValid _ _ _ _ _ _ _ _ _ _ (by exact (Sees.row S qAt)) (by exact (Sees.row S qAt)) (by exact HM.out)) ?_; clear S; intro w S)); (refine qKo hK ?_; clear hK K)))
        refine tree_fin ?_
        go_wp2
        go_roundw
        case rel => exact ⟨3, by omega, by go_num, HN1, S⟩
        case measure => simp [intOf]
    · obtain rfl : q = 3 := by omega
      exfalso
      have h := HNOT.out
      rw [HQ.out.1 (by omega), HQ.out.2.1 (by omega), HQ.out.2.2 (by omega)] at h
      cases h
theorem C_spec_SharedMix (ws : List SMx) (x : SMx) (s : Int) (t u v : Value) (z : Scd) (w0 : World) (hw : SeesSMs w0 t ws) (hn : ws.length ≤ 1048576) (hsm : ∀ m ∈ ws, SMSmall 1048576 m) (hu : Ints w0 u x.a.xs) (hv : Ints w0 v x.b.xs) (n1 : x.a.xs.length ≤ 1048576) (n2 : x.b.xs.length ≤ 1048576) (hz : mixR ws x s = z) :
    Calls Tryz.prog 11 #[t, .agg #[.int .i64 (x).a.r, .int .i64 (x).a.c, u, .int .i64 (x).b.r, .int .i64 (x).b.c, v], .int .i64 s] w0 (MakesScl w0 z) := by
  subst hz
  cases hok : mixOk ws x s with
  | false => rw [mixR_not hok]; exact C_spec_SMix_bad ws x s t u v w0 hw hn hsm hu hv n1 n2 hok
  | true =>
    obtain ⟨a, b, c, rfl, _, _, _, _, _, _, _, _, _, _, _, e⟩ := mixOk_parts hok
    rw [e]
    exact C_spec_SMix_good a b c x s t u v w0 hw hu hv hok
end
end Go.Proofs.YtjgfjfjboimgdaaGreat
