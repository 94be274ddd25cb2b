/- MulW MatU MatS -/
import Derived.Test.YtjgfjfjboimgdaaGreatY07
namespace Go.Proofs.YtjgfjfjboimgdaaGreat
set_option linter.unusedSimpArgs false
set_option linter.unusedVariables false
set_option linter.unusedSectionVars false
open Go Go.RowKit
set_option maxHeartbeats 8000000
set_option maxRecDepth 20000
section
theorem C_spec_TripleRight (a b c d e f : Int) (w0 : World) (h1 : Sh.ok ⟨a, b⟩ = true) (h2 : Sh.ok ⟨c, d⟩ = true) (h3 : Sh.ok ⟨e, f⟩ = true) (h4 : joinS ⟨e, f⟩ = mulR (joinS ⟨a, b⟩) (joinS ⟨c, d⟩)) :
    Calls Tryz.prog 139 #[.agg #[.int .i64 a, .int .i64 b, .int .i64 c, .int .i64 d, .int .i64 e, .int .i64 f]] w0 fun r w' => r = .returned (.bool true) ∧ Below w0.heap.size w0 w' := by
  obtain ⟨L, HL, S⟩ := st_start w0; have F : True := trivial
  go_enter Tryz.func139, Tryz.ntmps139
  go_upto_region 1 with (first | (refine qbx HL S ?_; clear F S HL; intro g w L HL S F))
  have HL0 := HL; have F0 := F; refine wp_region_tree (S := fun w' => St w0 w' L) (.calm 0 (.calm 1 (.act 2 (.calm 3 (.calm 4 (.calm 5 (.act 6 (qcs 7 4 (.act 11 (qcs 12 4 (.calm 17 (.calm 18 (.calm 20 (.calm 21 (.act 16 (.act 19 (.act 22 (.act 23 (.calm 24 (.calm 25 (.calm 26 .fin))) .stop) .stop) .stop) .stop)))))) .stop)) .stop)))) .stop))) (by kernel_rfl) (by kernel_rfl) (by kernel_rfl) (by intro c a d v w h; cases d <;> exact h) ?_; dsimp only [qcs, Nat.reduceAdd]; replace S := S.drew
  repeat (first | refine qCa ?_ | refine qAn ?_ | refine qSk ?_ | refine qAs ?_ | (refine tree_act rfl rfl ?_ tree_stop; intro K hK; go_wp2_with (first | (go_at_call 132; refine qGr S (C_spec_SharedValid _ _ _) ?_; clear S; intro w S) | (go_at_call 131; refine qGr S (C_spec_JoinShares _ _ _) ?_; clear S; intro w S) | (go_at_call 138; refine qPu (C_spec_MulRing _ _ _) ?_)); (refine qKo hK ?_; clear hK K)))
  refine tree_fin ?_
  go_wp2
  go_ret
  exact ⟨rfl, S.below⟩
theorem C_subS' (a b c d x y : Int) (w0 : World) (h : subS ⟨a, b⟩ ⟨c, d⟩ = ⟨x, y⟩) : Calls Tryz.prog 140 #[.agg #[.int .i64 a, .int .i64 b], .agg #[.int .i64 c, .int .i64 d]] w0 fun e w' => e = .returned (.agg #[.int .i64 x, .int .i64 y]) ∧ Below w0.heap.size w0 w' := by
  have := C_spec_SubShares a b c d w0
  rw [h] at this
  exact this
theorem C_spec_MulV (a b c d t0 t1 t2 t3 t4 t5 dd ee p q : Int) (w0 : World) (g1 : Sh.ok ⟨a, b⟩ = true) (g2 : Sh.ok ⟨c, d⟩ = true) (ht : triOk ⟨⟨t0, t1⟩, ⟨t2, t3⟩, ⟨t4, t5⟩⟩ = true)
    (hd : dOf ⟨a, b⟩ ⟨⟨t0, t1⟩, ⟨t2, t3⟩, ⟨t4, t5⟩⟩ = dd) (he : eOf ⟨c, d⟩ ⟨⟨t0, t1⟩, ⟨t2, t3⟩, ⟨t4, t5⟩⟩ = ee) (hp : mulV ⟨⟨t0, t1⟩, ⟨t2, t3⟩, ⟨t4, t5⟩⟩ dd ee = ⟨p, q⟩) :
    Calls Tryz.prog 98 #[.agg #[.int .i64 a, .int .i64 b], .agg #[.int .i64 c, .int .i64 d], .agg #[.int .i64 t0, .int .i64 t1, .int .i64 t2, .int .i64 t3, .int .i64 t4, .int .i64 t5]] w0 (MakesMul w0 p q dd ee) := by
  simp only [triOk, Bool.and_eq_true, decide_eq_true_eq] at ht
  obtain ⟨⟨⟨h1, h2⟩, h3⟩, h4⟩ := ht
  have CT := fun w => C_spec_TripleRight t0 t1 t2 t3 t4 t5 w h1 h2 h3 h4
  have J1 := join_sub g1 h1
  have J2 := join_sub g2 h2
  have r1 := sh_ok.1 h1
  have r2 := sh_ok.1 h2
  have r3 := sh_ok.1 h3
  have rd : rv dd = true := by rw [← hd]; exact subR_rv (join_bd g1) (join_bd h1)
  have re : rv ee = true := by rw [← he]; exact subR_rv (join_bd g2) (join_bd h2)
  have hd' : subR (joinS ⟨a, b⟩) (joinS ⟨t0, t1⟩) = dd := hd
  have he' : subR (joinS ⟨c, d⟩) (joinS ⟨t2, t3⟩) = ee := he
  dsimp only at r1 r2 r3
  have b1 := mul_bd rd r2.1
  have b2 := mul_bd re r1.1
  have b3 := mul_bd rd re
  have b4 := mul_bd rd r2.2
  have b5 := mul_bd re r1.2
  have c1 := rv_bd r3.1
  have c2 := rv_bd r3.2
  have hp1 : ro (t4 + dd * t2 + ee * t0 + dd * ee) = p := congrArg Sh.a hp
  have hp2 : ro (t5 + dd * t3 + ee * t1) = q := congrArg Sh.b hp
  have w1 : IntKind.i64.wrap (dd * t2) = dd * t2 := wrap_small (by omega)
  have w2 : IntKind.i64.wrap (t4 + dd * t2) = t4 + dd * t2 := wrap_small (by omega)
  have w3 : IntKind.i64.wrap (ee * t0) = ee * t0 := wrap_small (by omega)
  have w4 : IntKind.i64.wrap (t4 + dd * t2 + ee * t0) = t4 + dd * t2 + ee * t0 := wrap_small (by omega)
  have w5 : IntKind.i64.wrap (dd * ee) = dd * ee := wrap_small (by omega)
  have w6 : IntKind.i64.wrap (t4 + dd * t2 + ee * t0 + dd * ee) = t4 + dd * t2 + ee * t0 + dd * ee := wrap_small (by omega)
  have w7 : IntKind.i64.wrap (dd * t3) = dd * t3 := wrap_small (by omega)
  have w8 : IntKind.i64.wrap (t5 + dd * t3) = t5 + dd * t3 := wrap_small (by omega)
  have w9 : IntKind.i64.wrap (ee * t1) = ee * t1 := wrap_small (by omega)
  have w10 : IntKind.i64.wrap (t5 + dd * t3 + ee * t1) = t5 + dd * t3 + ee * t1 := wrap_small (by omega)
  have C1 : ∀ w, Calls Tryz.prog 96 #[.int .i64 (t4 + dd * t2 + ee * t0 + dd * ee)] w fun e w' => e = .returned (.int .i64 p) ∧ w = w' := fun w => hp1 ▸ C_spec_l1Ring _ w
  have C2 : ∀ w, Calls Tryz.prog 96 #[.int .i64 (t5 + dd * t3 + ee * t1)] w fun e w' => e = .returned (.int .i64 q) ∧ w = w' := fun w => hp2 ▸ C_spec_l1Ring _ w
  clear h1 h2 h3 h4 hd he hp r1 r2 r3 rd re b1 b2 b3 b4 b5 c1 c2
  rw [hd'] at J1
  rw [he'] at J2
  obtain ⟨⟨x10, x11⟩, hx1⟩ : ∃ x, subS ⟨a, b⟩ ⟨t0, t1⟩ = x := ⟨_, rfl⟩
  obtain ⟨⟨x20, x21⟩, hx2⟩ : ∃ x, subS ⟨c, d⟩ ⟨t2, t3⟩ = x := ⟨_, rfl⟩
  rw [hx1] at J1
  rw [hx2] at J2
  have H1 := Lib.hid hx1
  have H2 := Lib.hid hx2
  clear hx1 hx2
  have HJ1 := Lib.hid J1
  have HJ2 := Lib.hid J2
  clear J1 J2
  have CR := fun n x w (h : ro n = x) => (h ▸ C_spec_l1Ring n w : Calls Tryz.prog 96 #[.int .i64 n] w fun e w' => e = .returned (.int .i64 x) ∧ w = w')
  have HP1 := Lib.hid hp1
  have HP2 := Lib.hid hp2
  have CJ := fun x y z w (h : joinS ⟨x, y⟩ = z) => (h ▸ C_spec_JoinShares x y w : Calls Tryz.prog 131 #[.agg #[.int .i64 x, .int .i64 y]] w fun e w' => e = .returned (.int .i64 z) ∧ Below w.heap.size w w')
  clear hd' he' hp1 hp2 C1 C2
  unfold MakesMul
  obtain ⟨L, HL, S⟩ := st_start w0; have F : True := trivial
  go_enter Tryz.func98, Tryz.ntmps98
  go_upto_region 5 with (first | (refine qbx HL S ?_; clear F S HL; intro g w L HL S F) | (refine qal HL S zSh ?_; clear F S HL; intro g w L HL S F) | (go_at_call 132; refine qGr S (C_spec_SharedValid _ _ _) ?_; clear S; intro w S) | (go_at_call 139; refine qGr S (CT _) ?_; clear S; intro w S) | (go_at_call 140; refine qGr S (C_subS' _ _ _ _ _ _ _ (by first | exact H1.out | exact H2.out)) ?_; clear S; intro w S) | (go_at_call 131; refine qGr S (CJ _ _ _ _ (by first | exact HJ1.out | exact HJ2.out)) ?_; clear S; intro w S))
  clear CT g1 g2 CJ
  have HL0 := HL; have F0 := F; refine wp_region_tree (S := fun w' => St w0 w' L) (qcs 0 19 (qcs 20 15 (.act 19 (.act 35 (.calm 36 (.act 37 (.act 38 .fin .stop) .stop)) (.act 37 (.act 35 (.calm 36 (.act 38 .fin .stop)) .stop) .stop)) (.act 37 (.act 19 (.act 35 (.calm 36 (.act 38 .fin .stop)) .stop) .stop) .stop)))) (by kernel_rfl) (by kernel_rfl) (by kernel_rfl) (by intro c a d v w h; cases d <;> exact h) ?_; dsimp only [qcs, Nat.reduceAdd]; replace S := S.drew
  repeat' (first | refine qCa ?_ | refine qAn ?_ | refine qSk ?_ | exact tree_stop | (refine tree_act rfl rfl ?_ ?_) | (intro K hK; (refine qaw HL S zSh ?_; clear F S HL; intro g w L HL S F); (refine qKo hK ?_; clear hK K)) | (intro K hK; (refine qsw HL S 0 ?_; clear F S HL; intro w L HL S F); (refine qKo hK ?_; clear hK K)) | (intro K hK; go_wp2_with (first | (go_at_call 96; refine qPu (CR _ _ _ (by first | exact HP1.out | exact HP2.out)) ?_)); (refine qKo hK ?_; clear hK K)))
  all_goals
    refine tree_fin ?_
    clear HL0 F0
    go_wp2_with (first | (refine wpList_lit rfl S _ _ _ rfl 3 Tryz.underlying23 infoInt (by simp [Act.eval]) (by simp [Act.eval, Value.oneCell']) rfl rfl rfl ?_; clear F S; intro g w L hM S; replace HL := qNm HL hM; clear hM; have F := qFc HL S) | (refine qst HL S 2 ?_; clear F S HL; intro w L HL S F))
    refine ret3 rfl (resCell S HL 2 rfl rfl (by kernel_rfl)) (show _ = _ from rfl) (show _ = _ from rfl) rfl ?_
    rw [HL.out] at S
    have T := S.asRow (p := 0) (n := 2) (size := 1) rfl rfl (by simp [maxLen])
    exact ⟨_, rfl, T.sub (by repeat (first | exact .refl _ | exact List.nil_sublist _ | apply List.Sublist.cons_cons | apply List.Sublist.cons))⟩
end
section
theorem C_emptyMatrix (R C N : Nat) (w0 : World) (hN : R * C = N) (hN2 : N ≤ 25) : Calls Tryz.prog 103 #[.int .i64 R, .int .i64 C] w0 (MakesMx w0 R C (tab N fun _ => 0)) := by
  unfold MakesMx
  rw [tab_length, ← ints_tab_zero]
  have w1 : (R : Int) * (C : Int) = (N : Int) := by rw [← hN, Int.natCast_mul]
  clear hN
  obtain ⟨L, HL, S⟩ := st_start w0; have F : True := trivial
  go_enter Tryz.func103, Tryz.ntmps103
  go_wp2_with (first | (refine qbx HL S ?_; clear F S HL; intro g w L HL S F) | (refine qal HL S zMx ?_; clear F S HL; intro g w L HL S F) | (refine qst HL S 0 ?_; clear F S HL; intro w L HL S F) | (refine qst HL S 1 ?_; clear F S HL; intro w L HL S F) | (refine qst HL S 2 ?_; clear F S HL; intro w L HL S F) | (refine qst HL S 3 ?_; clear F S HL; intro w L HL S F)  | (at_make; refine wpList_make rfl S _ _ _ rfl 3 _ 1 8 Tryz.underlying23 infoInt _ N rfl rfl rfl (by omega) (by simp only [maxLen]; omega) ?_; clear F S; intro g w L hM S; replace HL := qNm HL hM; clear hM; have F := qFc HL S))
  ((try simp only [Exit.inBlock, Exit.then]); refine ret1 rfl (resCell S HL 1 rfl rfl (by kernel_rfl)) rfl ?_)
  exact ⟨_, rfl, (by rw [HL.out] at S; exact S.sub (by repeat (first | exact .refl _ | exact List.nil_sublist _ | apply List.Sublist.cons_cons | apply List.Sublist.cons)))⟩
theorem C_rowOf (R C r N cap b off m : Nat) (w0 : World) (hr : r < R) (hR : R ≤ 5) (hC1 : 1 ≤ C) (hC : C ≤ 5) (hm : r * C = m) (hN : R * C = N) (hN2 : N ≤ cap) (hc : cap ≤ maxLen) :
    Calls Tryz.prog 104 #[.agg #[.int .i64 R, .int .i64 C, .slice (some ⟨b, off, none⟩) N cap], .int .i64 r] w0 fun e w' => e = .returned (.slice (some ⟨b, off + m, none⟩) C (cap - m)) ∧ Below w0.heap.size w0 w' := by
  have h1 : m + C ≤ N := by
    have : (r + 1) * C ≤ R * C := Nat.mul_le_mul_right _ hr
    rw [Nat.succ_mul, hm, hN] at this
    exact this
  have h2 : m ≤ 25 := by
    have : r * C ≤ 5 * 5 := Nat.mul_le_mul (by omega) hC
    omega
  have w1 : (r : Int) * (C : Int) = (m : Int) := by rw [← hm, Int.natCast_mul]
  have w2 : ((r : Int) + 1) * (C : Int) = ((m + C : Nat) : Int) := by rw [Int.add_mul, w1]; omega
  unfold maxLen at hc
  clear hm hN
  obtain ⟨L, HL, S⟩ := st_start w0; have F : True := trivial
  go_enter Tryz.func104, Tryz.ntmps104
  have hne : ¬ cap = m := by omega
  go_wp2_with (first | (refine qbx HL S ?_; clear F S HL; intro g w L HL S F)  | (refine qst HL S 0 ?_; clear F S HL; intro w L HL S F) | (refine qst HL S 1 ?_; clear F S HL; intro w L HL S F) | (refine qst HL S 2 ?_; clear F S HL; intro w L HL S F) | (refine qst HL S 3 ?_; clear F S HL; intro w L HL S F)  )
  simp only [Nat.add_sub_cancel_left]
  go_ret
  exact ⟨rfl, S.below⟩
theorem C_impl_TurnMatrix (r c : Int) (xs : List Int) (v : Value) (t : Mx) (w0 : World) (h : Ints w0 v xs) (ht : turnMx ⟨r, c, xs⟩ = t) :
    Calls Tryz.prog 101 #[.agg #[.int .i64 r, .int .i64 c, v]] w0 (MakesMx w0 t.r t.c t.xs) := by
  unfold MakesMx
  have H := Lib.hid h
  obtain ⟨_, A, cap, rfl, hcap, hmax, hA⟩ := h
  cases hv : (Mx.mk r c xs).ok with
  | false =>
    obtain rfl : t = Mx.zero := ht ▸ turnMx_not hv
    clear ht
    obtain ⟨L, HL, S⟩ := st_start w0; have F : True := trivial
    go_enter Tryz.func101, Tryz.ntmps101
    go_wp2_with (first | (refine qbx HL S ?_; clear F S HL; intro g w L HL S F) | (refine qal HL S zMx ?_; clear F S HL; intro g w L HL S F) | (refine qst HL S 0 ?_; clear F S HL; intro w L HL S F) | (refine qst HL S 1 ?_; clear F S HL; intro w L HL S F) | (refine qst HL S 2 ?_; clear F S HL; intro w L HL S F) | (refine qst HL S 3 ?_; clear F S HL; intro w L HL S F)  | (go_at_call 70; refine qGr S (C_impl_MatrixValid _ _ _ _ _ _ (by exact H.out.at_ S) (by exact hv)) ?_; clear S; intro w S))
    ((try simp only [Exit.inBlock, Exit.then]); refine ret1 rfl (resCell S HL 0 rfl rfl (by kernel_rfl)) rfl ?_)
    exact ⟨_, rfl, S.nilMx _⟩
  | true =>
    obtain ⟨R, C, N, e0, r1, r2, c1, c2, hRC, hN, hN2, hall⟩ := Mx.ok_nat hv
    obtain ⟨rfl, rfl⟩ : r = R ∧ c = C := by injection e0 with e1 e2 _; exact ⟨e1, e2⟩
    clear e0
    rw [turnMx_ok hv] at ht
    subst ht
    have HV := Lib.hid hv
    clear hv
    dsimp only at hN hall ⊢
    clear hall
    rw [hN] at hcap hA
    have hN0 : 0 < N := by rw [← hRC]; exact Nat.mul_pos (by omega) (by omega)
    obtain ⟨b, off, rfl, hb, hcell⟩ := hA hN0
    have HA := Lib.hid hcell
    clear hcell hA
    have CE := fun w => C_emptyMatrix C R N w (by rw [Nat.mul_comm]; exact hRC) hN2
    unfold MakesMx at CE
    rw [tab_length] at CE
    have HZ : tab N (fun _ => 0) = turnTo R C xs 0 0 := by rw [turnTo_zero, Nat.mul_comm C R, hRC]
    rw [HZ] at CE
    have HZ' := Lib.hid HZ
    have HRC := Lib.hid hRC
    have HN := Lib.hid hN
    rw [HN.out] at H ⊢
    clear hRC HZ hN HZ'
    rw [tab_length, Nat.mul_comm C R, HRC.out]
    obtain ⟨L, HL, S⟩ := st_start w0; have F : True := trivial
    go_enter Tryz.func101, Tryz.ntmps101
    go_upto_region 1 with (first | (refine qbx HL S ?_; clear F S HL; intro gm w L HL S F) | (refine qal HL S zMx ?_; clear F S HL; intro gr w L HL S F))
    go_upto_region 4 with (first | (refine qal HL S zMx ?_; clear F S HL; intro g3 w L HL S F) | (refine qst HL S 0 ?_; clear F S HL; intro w L HL S F) | (refine qst HL S 1 ?_; clear F S HL; intro w L HL S F) | (refine qst HL S 2 ?_; clear F S HL; intro w L HL S F) | (refine qst HL S 3 ?_; clear F S HL; intro w L HL S F) | (go_at_call 103; refine (CE _).mono ?_; rintro e w ⟨u, rfl, T0⟩; have hX := qcl HL S T0; clear F S HL T0; obtain ⟨L, HL, S, F⟩ := hX; obtain ⟨A', cap', rfl, hcap', hmax'⟩ := qSl HL S 0) | (go_at_call 70; refine qGr S (C_impl_MatrixValid _ _ _ _ _ _ (by exact H.out.at_ S) (by exact HV.out)) ?_; clear S; intro w S))
    obtain ⟨gn, cn, ev, hcv, hmv⟩ := S.rowAt (p := 1) (atOf HL rfl) hN0
    obtain ⟨rfl, rfl⟩ : A' = some ⟨gn, 0, none⟩ ∧ cap' = cn := by injection ev with e1 _ e3; exact ⟨e1, e3⟩
    clear ev CE
    go_wp2
    go_loopw [18] (fun i wr => ∃ (j : Nat) (L : List Ent), j ≤ R ∧ i = .int .i64 j ∧ Hid (L = [.box g3 30 [.int .i64 C, .int .i64 R, .slice (some ⟨gn, 0, none⟩) N cap'], .row 3 1 (.slice (some ⟨gn, 0, none⟩) N cap') N (ints (turnTo R C xs j 0)), .box gr 30 [.int .i64 0, .int .i64 0, .slice none 0 0], .box gm 30 [.int .i64 R, .int .i64 C, .slice (some ⟨b, off, none⟩) N cap]]) ∧ St w0 wr L) (fun i _ => R - (intOf i).toNat)
    case atStart => exact ⟨0, L, Nat.zero_le _, rfl, HL, S⟩
    case round =>
      clear F HL S
      obtain ⟨j, L, hj, rfl, HL, S⟩ := hrel
      have F := factsAll HL S
      simp only [factsOf, cellsFrom, and_true, true_and, Nat.reduceAdd] at F
      by_cases hlt : j < R
      · obtain ⟨m1, hm1⟩ : ∃ m1, j * C = m1 := ⟨_, rfl⟩
        have HM1 := Lib.hid hm1
        have CR := fun w => C_rowOf R C j N cap b off m1 w hlt r2 c1 c2 hm1 HRC.out hcap hmax
        clear hm1
        go_wp2_with (first | (go_at_call 104; refine qGr S (CR _) ?_; clear S; intro w S))
        clear CR
        go_loopw [25] (fun i wr => ∃ (k : Nat) (L : List Ent), k ≤ C ∧ i = .int .i64 k ∧ Hid (L = [.box g3 30 [.int .i64 C, .int .i64 R, .slice (some ⟨gn, 0, none⟩) N cap'], .row 3 1 (.slice (some ⟨gn, 0, none⟩) N cap') N (ints (turnTo R C xs j k)), .box gr 30 [.int .i64 0, .int .i64 0, .slice none 0 0], .box gm 30 [.int .i64 R, .int .i64 C, .slice (some ⟨b, off, none⟩) N cap]]) ∧ St w0 wr L) (fun i _ => C - (intOf i).toNat)
        case atStart => exact ⟨0, L, Nat.zero_le _, rfl, HL, S⟩
        case round =>
          clear F HL S
          obtain ⟨k, L, hk, rfl, HL, S⟩ := hrel
          have F := factsAll HL S
          simp only [factsOf, cellsFrom, and_true, true_and, Nat.reduceAdd] at F
          by_cases hlt2 : k < C
          · have hq : m1 + k < N := by rw [← HM1.out, ← HRC.out]; exact cell_lt hlt hlt2
            have hT := turnTo_set R C xs j k hlt hlt2
            rw [HM1.out] at hT
            have c0 := (S.below.cell (p := ⟨b, off + (m1 + k), none⟩) hb).trans (HA.out (m1 + k) _ (ints_getD xs (m1 + k) (by rw [HN.out]; exact hq)))
            rw [← Nat.add_assoc] at c0
            generalize xs.getD (m1 + k) 0 = x at hT c0
            have hq2 : k * R + j < N := by rw [← HRC.out, Nat.mul_comm R C]; exact cell_lt hlt2 hlt
            obtain ⟨m2, hm2⟩ : ∃ m2, k * R = m2 := ⟨_, rfl⟩
            rw [hm2] at hq2 hT
            have w1 : (k : Int) * (R : Int) = (m2 : Int) := by rw [← hm2, Int.natCast_mul]
            have HT := Lib.hid hT
            clear hT hm2
            go_wp2_with (first | (refine wpList_store_row rfl S _ _ _ rfl 1 _ _ _ _ _ _ _ (atOf HL rfl) rfl _ rfl (by kernel_rfl) rfl (by omega) ?_; clear F S; intro w L hM S; replace HL := qNm HL hM; clear hM; have F := qFc HL S))
            go_roundw
            case rel => exact ⟨k + 1, L, by omega, by go_num, by rw [← HT.out, ints_set]; exact HL, S⟩
            case measure => simp [intOf]; omega
          · obtain rfl : k = C := by omega
            go_wp2
            go_roundw
            case rel => exact ⟨j + 1, L, by omega, by go_num, by rw [← turnTo_row]; exact HL, S⟩
            case measure => simp [intOf]; omega
      · obtain rfl : j = R := by omega
        go_wp2_with (first | (refine qst HL S 2 ?_; clear F S HL; intro w L HL S F))
        ((try simp only [Exit.inBlock, Exit.then]); refine ret1 rfl (resCell S HL 2 rfl rfl (by kernel_rfl)) rfl ?_)
        refine ⟨_, rfl, ?_⟩
        rw [← HRC.out, Nat.mul_comm j C, ← turnTo_full, Nat.mul_comm C j, HRC.out]
        exact (by rw [HL.out] at S; exact S.sub (by repeat (first | exact .refl _ | exact List.nil_sublist _ | apply List.Sublist.cons_cons | apply List.Sublist.cons)))
theorem C_each_Turn (r c : Int) (xs : List Int) (r' c' : Int) (ys : List Int) (u v : Value) (t t' : Mx) (w0 : World) (h : Ints w0 u xs) (h' : Ints w0 v ys) (ht : turnMx ⟨r, c, xs⟩ = t) (ht' : turnMx ⟨r', c', ys⟩ = t') :
    Calls Tryz.prog 56 #[.agg #[.int .i64 r, .int .i64 c, u, .int .i64 r', .int .i64 c', v], .func (.func 101) #[] #[]] w0 (MakesSMx w0 t.r t.c t.xs t'.r t'.c t'.xs) := by
  have CT := fun r c xs v t w h ht => C_impl_TurnMatrix r c xs v t w h ht
  unfold MakesMx at CT
  unfold MakesSMx
  have H := Lib.hid h
  have H' := Lib.hid h'
  obtain ⟨_, A, cap, rfl, hcap, hmax, _⟩ := h
  obtain ⟨_, A2, cap2, rfl, hcap2, hmax2, _⟩ := h'
  have HT := Lib.hid ht
  have HT' := Lib.hid ht'
  clear ht ht'
  obtain ⟨L, HL, S⟩ := st_start w0; have F : True := trivial
  go_enter Tryz.func56, Tryz.ntmps56
  go_wp2_with (first | (refine qbx HL S ?_; clear F S HL; intro g w L HL S F) | (refine qal HL S zSMx ?_; clear F S HL; intro g w L HL S F) | (refine qst HL S 0 ?_; clear F S HL; intro w L HL S F) | (refine qst HL S 1 ?_; clear F S HL; intro w L HL S F) | (refine qst HL S 2 ?_; clear F S HL; intro w L HL S F) | (refine qst HL S 3 ?_; clear F S HL; intro w L HL S F)  )
  have HL0 := HL; have F0 := F; refine wp_region_tree (S := fun w' => St w0 w' L) (qcs 0 3 (qcs 4 3 (.act 3 (.act 7 (.calm 8 (.act 9 .fin .stop)) .stop) .stop))) (by kernel_rfl) (by kernel_rfl) (by kernel_rfl) (by intro c a d v w h; cases d <;> exact h) ?_; dsimp only [qcs, Nat.reduceAdd]; replace S := S.drew
  repeat (first | refine qCa ?_ | refine qAn ?_ | refine qSk ?_ | (refine tree_act rfl rfl ?_ tree_stop; intro K hK; (refine qsw HL S 2 ?_; clear F S HL; intro w L HL S F); (refine qKo hK ?_; clear hK K)) | (refine tree_act rfl rfl ?_ tree_stop; intro K hK; go_wp2_with (first | (go_at_call 101; refine (CT _ _ _ _ _ _ (by first | exact H.out.at_ S | exact H'.out.at_ S) (by first | exact HT.out | exact HT'.out)).mono ?_; rintro e w ⟨u, rfl, T0⟩; have hX := qcl HL S T0; clear F S HL T0; obtain ⟨L, HL, S, F⟩ := hX; obtain ⟨A', cap', rfl, hcap', hmax'⟩ := qSl HL S 0)); (refine qKo hK ?_; clear hK K)))
  refine tree_fin ?_
  go_wp2
  ((try simp only [Exit.inBlock, Exit.then]); refine ret1 rfl (resCell S HL 2 rfl rfl (by kernel_rfl)) rfl ?_)
  exact ⟨_, _, rfl, (by rw [HL.out] at S; exact S.sub (by repeat (first | exact .refl _ | exact List.nil_sublist _ | apply List.Sublist.cons_cons | apply List.Sublist.cons)))⟩
end
section
theorem St.nilSMx {w0 w : World} {L : List Ent} (S : St w0 w L) (t : TypeId) : St w0 w [.row t 1 (.slice none 0 0) 0 [], .row t 1 (.slice none 0 0) 0 []] :=
  ((S.nilRow t 1).nilRow t 1).sub (.cons_cons _ (.cons_cons _ (List.nil_sublist _)))
theorem C_impl_TurnShared (r c : Int) (xs : List Int) (r' c' : Int) (ys : List Int) (u v : Value) (t : SMx) (w0 : World) (h : Ints w0 u xs) (h' : Ints w0 v ys) (ht : turnSMx ⟨⟨r, c, xs⟩, ⟨r', c', ys⟩⟩ = t) :
    Calls Tryz.prog 54 #[.agg #[.int .i64 r, .int .i64 c, u, .int .i64 r', .int .i64 c', v]] w0 (MakesSMx w0 t.a.r t.a.c t.a.xs t.b.r t.b.c t.b.xs) := by
  have H := Lib.hid h
  have H' := Lib.hid h'
  obtain ⟨_, A, cap, rfl, hcap, hmax, _⟩ := h
  obtain ⟨_, A2, cap2, rfl, hcap2, hmax2, _⟩ := h'
  cases hv : likeMx ⟨r, c, xs⟩ ⟨r', c', ys⟩ with
  | false =>
    obtain rfl : t = SMx.zero := ht ▸ (by simp [turnSMx, SMx.ok, hv])
    clear ht
    unfold MakesSMx
    obtain ⟨L, HL, S⟩ := st_start w0; have F : True := trivial
    go_enter Tryz.func54, Tryz.ntmps54
    go_wp2_with (first | (refine qbx HL S ?_; clear F S HL; intro g w L HL S F) | (refine qal HL S zSMx ?_; clear F S HL; intro g w L HL S F) | (refine qst HL S 0 ?_; clear F S HL; intro w L HL S F) | (refine qst HL S 1 ?_; clear F S HL; intro w L HL S F) | (refine qst HL S 2 ?_; clear F S HL; intro w L HL S F) | (refine qst HL S 3 ?_; clear F S HL; intro w L HL S F)  | (go_at_call 72; refine qGr S (C_impl_SharedMatrixValid _ _ _ _ _ _ _ _ _ _ (by exact H.out.at_ S) (by exact H'.out.at_ S) (by exact hv)) ?_; clear S; intro w S))
    ((try simp only [Exit.inBlock, Exit.then]); refine ret1 rfl (resCell S HL 0 rfl rfl (by kernel_rfl)) rfl ?_)
    exact ⟨_, _, rfl, S.nilSMx _⟩
  | true =>
    obtain rfl : t = ⟨turnMx ⟨r, c, xs⟩, turnMx ⟨r', c', ys⟩⟩ := ht ▸ (by simp [turnSMx, SMx.ok, hv])
    clear ht
    dsimp only
    have CT := fun w h h' => C_each_Turn r c xs r' c' ys (.slice A xs.length cap) (.slice A2 ys.length cap2) _ _ w h h' rfl rfl
    generalize turnMx ⟨r, c, xs⟩ = t1 at CT ⊢
    generalize turnMx ⟨r', c', ys⟩ = t2 at CT ⊢
    unfold MakesSMx at CT ⊢
    have HV := Lib.hid hv
    clear hv
    obtain ⟨L, HL, S⟩ := st_start w0; have F : True := trivial
    go_enter Tryz.func54, Tryz.ntmps54
    go_wp2_with (first | (refine qbx HL S ?_; clear F S HL; intro g w L HL S F) | (refine qal HL S zSMx ?_; clear F S HL; intro g w L HL S F) | (refine qst HL S 0 ?_; clear F S HL; intro w L HL S F) | (refine qst HL S 1 ?_; clear F S HL; intro w L HL S F) | (refine qst HL S 2 ?_; clear F S HL; intro w L HL S F) | (refine qst HL S 3 ?_; clear F S HL; intro w L HL S F)  | (go_at_call 72; refine qGr S (C_impl_SharedMatrixValid _ _ _ _ _ _ _ _ _ _ (by exact H.out.at_ S) (by exact H'.out.at_ S) (by exact HV.out)) ?_; clear S; intro w S) | (go_at_call 56; refine (CT _ (H.out.at_ S) (H'.out.at_ S)).mono ?_; rintro e w ⟨u, v, rfl, T0⟩; have hX := qcl HL S T0; clear F S HL T0; obtain ⟨L, HL, S, F⟩ := hX; obtain ⟨A', cap', rfl, hcap', hmax'⟩ := qSl HL S 0; obtain ⟨A', cap', rfl, hcap', hmax'⟩ := qSl HL S 1))
    ((try simp only [Exit.inBlock, Exit.then]); refine ret1 rfl (resCell S HL 2 rfl rfl (by kernel_rfl)) rfl ?_)
    exact ⟨_, _, rfl, (by rw [HL.out] at S; exact S.sub (by repeat (first | exact .refl _ | exact List.nil_sublist _ | apply List.Sublist.cons_cons | apply List.Sublist.cons)))⟩
theorem C_spec_TurnShared (r c : Int) (xs : List Int) (r' c' : Int) (ys : List Int) (u v : Value) (t : SMx) (w0 : World) (h : Ints w0 u xs) (h' : Ints w0 v ys) (hn : xs.length ≤ 1048576) (hn' : ys.length ≤ 1048576) (ht : turnSMx ⟨⟨r, c, xs⟩, ⟨r', c', ys⟩⟩ = t) :
    Calls Tryz.prog 46 #[.agg #[.int .i64 r, .int .i64 c, u, .int .i64 r', .int .i64 c', v]] w0 (MakesSMx w0 t.a.r t.a.c t.a.xs t.b.r t.b.c t.b.xs) := by
  have H := Lib.hid h
  have H' := Lib.hid h'
  obtain ⟨_, A, cap, rfl, hcap, hmax, _⟩ := h
  obtain ⟨_, A2, cap2, rfl, hcap2, hmax2, _⟩ := h'
  have CO := fun w h h' => C_l1OwnSharedMatrix r c xs r' c' ys (.slice A xs.length cap) (.slice A2 ys.length cap2) w h h' hn hn'
  cases hv : likeMx ⟨r, c, xs⟩ ⟨r', c', ys⟩ with
  | false =>
    obtain rfl : t = SMx.zero := ht ▸ (by simp [turnSMx, SMx.ok, hv])
    clear ht
    unfold MakesSMx at CO ⊢
    obtain ⟨L, HL, S⟩ := st_start w0; have F : True := trivial
    go_enter Tryz.func46, Tryz.ntmps46
    go_wp2_with (first | (refine qbx HL S ?_; clear F S HL; intro g w L HL S F) | (refine qal HL S zSMx ?_; clear F S HL; intro g w L HL S F) | (refine qst HL S 0 ?_; clear F S HL; intro w L HL S F) | (refine qst HL S 1 ?_; clear F S HL; intro w L HL S F) | (refine qst HL S 2 ?_; clear F S HL; intro w L HL S F) | (refine qst HL S 3 ?_; clear F S HL; intro w L HL S F)  | (go_at_call 42; refine (CO _ (H.out.at_ S) (H'.out.at_ S)).mono ?_; rintro e w ⟨u, v, rfl, T0⟩; have hX := qcl HL S T0; clear F S HL T0; obtain ⟨L, HL, S, F⟩ := hX; obtain ⟨A', cap', rfl, hcap', hmax'⟩ := qSl HL S 0; obtain ⟨A', cap', rfl, hcap', hmax'⟩ := qSl HL S 1) | (go_at_call 43; refine qGr S (C_spec_SharedMatrixValid _ _ _ _ _ _ _ _ _ _ (by exact (Sees.row S qAt).ints) (by exact (Sees.row S qAt).ints) (by exact hv)) ?_; clear S; intro w S))
    ((try simp only [Exit.inBlock, Exit.then]); refine ret1 rfl (resCell S HL 2 rfl rfl (by kernel_rfl)) rfl ?_)
    exact ⟨_, _, rfl, S.nilSMx _⟩
  | true =>
    obtain rfl : t = ⟨turnMx ⟨r, c, xs⟩, turnMx ⟨r', c', ys⟩⟩ := ht ▸ (by simp [turnSMx, SMx.ok, hv])
    clear ht
    dsimp only
    obtain ⟨t1, h1⟩ : ∃ t, turnMx ⟨r, c, xs⟩ = t := ⟨_, rfl⟩
    obtain ⟨t2, h2⟩ : ∃ t, turnMx ⟨r', c', ys⟩ = t := ⟨_, rfl⟩
    rw [h1, h2]
    have HT1 := Lib.hid h1
    have HT2 := Lib.hid h2
    have HV := Lib.hid hv
    clear hv h1 h2
    have CT := fun r c xs v t w h hn ht => C_spec_TurnMatrix r c xs v t w h hn ht
    unfold MakesMx at CT
    unfold MakesSMx at CO ⊢
    obtain ⟨L, HL, S⟩ := st_start w0; have F : True := trivial
    go_enter Tryz.func46, Tryz.ntmps46
    go_wp2_with (first | (refine qbx HL S ?_; clear F S HL; intro g w L HL S F) | (refine qal HL S zSMx ?_; clear F S HL; intro g w L HL S F) | (refine qst HL S 0 ?_; clear F S HL; intro w L HL S F) | (refine qst HL S 1 ?_; clear F S HL; intro w L HL S F) | (refine qst HL S 2 ?_; clear F S HL; intro w L HL S F) | (refine qst HL S 3 ?_; clear F S HL; intro w L HL S F)  | (go_at_call 42; refine (CO _ (H.out.at_ S) (H'.out.at_ S)).mono ?_; rintro e w ⟨u, v, rfl, T0⟩; have hX := qcl HL S T0; clear F S HL T0; obtain ⟨L, HL, S, F⟩ := hX; obtain ⟨A', cap', rfl, hcap', hmax'⟩ := qSl HL S 0; obtain ⟨A', cap', rfl, hcap', hmax'⟩ := qSl HL S 1) | (go_at_call 43; refine qGr S (C_spec_SharedMatrixValid _ _ _ _ _ _ _ _ _ _ (by exact (Sees.row S qAt).ints) (by exact (Sees.row S qAt).ints) (by exact HV.out)) ?_; clear S; intro w S))
    have HL0 := HL; have F0 := F; refine wp_region_tree (S := fun w' => St w0 w' L) (.calm 0 (.calm 1 (.calm 3 (.calm 4 (.act 2 (.act 5 (.calm 6 (.act 7 .fin .stop)) .stop) .stop))))) (by kernel_rfl) (by kernel_rfl) (by kernel_rfl) (by intro c a d v w h; cases d <;> exact h) ?_; replace S := S.drew
    repeat (first | refine qCa ?_ | refine qAn ?_ | refine qSk ?_ | (refine tree_act rfl rfl ?_ tree_stop; intro K hK; (refine qsw HL S 4 ?_; clear F S HL; intro w L HL S F); (refine qKo hK ?_; clear hK K)) | (refine tree_act rfl rfl ?_ tree_stop; intro K hK; go_wp2_with (first | (go_at_call 91; refine (CT _ _ _ _ _ _ (by exact (Sees.row S qAt).ints) (by first | exact hn | exact hn') (by first | exact HT1.out | exact HT2.out)).mono ?_; rintro e w ⟨u, rfl, T0⟩; have hX := qcl HL S T0; clear F S HL T0; obtain ⟨L, HL, S, F⟩ := hX; obtain ⟨A', cap', rfl, hcap', hmax'⟩ := qSl HL S 0)); (refine qKo hK ?_; clear hK K)))
    refine tree_fin ?_
    go_wp2
    ((try simp only [Exit.inBlock, Exit.then]); refine ret1 rfl (resCell S HL 4 rfl rfl (by kernel_rfl)) rfl ?_)
    exact ⟨_, _, rfl, (by rw [HL.out] at S; exact S.sub (by repeat (first | exact .refl _ | exact List.nil_sublist _ | apply List.Sublist.cons_cons | apply List.Sublist.cons)))⟩
end
end Go.Proofs.YtjgfjfjboimgdaaGreat
