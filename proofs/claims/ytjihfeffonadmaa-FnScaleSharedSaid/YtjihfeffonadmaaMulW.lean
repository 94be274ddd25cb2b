/-
  Products of shared numbers with a right triple: what the reference returns.
-/
import Derived.Test.YtjihfeffonadmaaMulV
namespace Go.Proofs.Ytjihfeffonadmaa
set_option linter.unusedSimpArgs false
set_option linter.unusedVariables false
set_option linter.unusedSectionVars false
open Go Go.RowKit
set_option maxHeartbeats 8000000
set_option maxRecDepth 20000
theorem C_spec_TripleRight (a b c d e f : Int) (w0 : World) (h1 : Sh.ok ⟨a, b⟩ = true) (h2 : Sh.ok ⟨c, d⟩ = true) (h3 : Sh.ok ⟨e, f⟩ = true) (h4 : joinS ⟨e, f⟩ = mulR (joinS ⟨a, b⟩) (joinS ⟨c, d⟩)) :
    Calls Try.prog 90 #[.agg #[.int .i64 a, .int .i64 b, .int .i64 c, .int .i64 d, .int .i64 e, .int .i64 f]] w0 fun r w' => r = .returned (.bool true) ∧ Below w0.heap.size w0 w' := by
  obtain ⟨L, HL, S⟩ := st_start w0; have F : True := trivial
  go_enter Try.func90, Try.ntmps90
  go_upto_region 1 with (first | (refine wpList_box rfl S _ _ rfl ?_; intro g w L hM T; clear F S; (try rw [HL.out] at hM); clear HL; (try simp [Act.put, Act.eval, Value.cells, splice] at hM); have HL := Lib.hid hM; clear hM; have S := T; clear T; have F := factsAll HL S; (try simp only [factsOf, cellsFrom, and_true, true_and, Nat.reduceAdd] at F)))
  have HL0 := HL; have F0 := F; refine wp_region_tree (S := fun w' => St w0 w' L) (.calm 0 (.calm 1 (.act 2 (.calm 3 (.calm 4 (.calm 5 (.act 6 (.calm 7 (.calm 8 (.calm 9 (.calm 10 (.act 11 (.calm 12 (.calm 13 (.calm 14 (.calm 15 (.calm 17 (.calm 18 (.calm 20 (.calm 21 (.act 16 (.act 19 (.act 22 (.act 23 (.calm 24 (.calm 25 (.calm 26 .fin))) .stop) .stop) .stop) .stop))))))))) .stop))))) .stop)))) .stop))) (by kernel_rfl) (by kernel_rfl) (by kernel_rfl) (by intro c a d v w h; cases d <;> exact h) ?_; replace S := S.drew
  repeat (first | (first | (refine tree_calm (v := ?_) ?_ rfl (by decide +kernel) rfl ?_ ?_; rotate_left; (focus (first | exact S | (refine S.sub (subL HL0 HL ?_); (repeat (first | exact List.Sublist.refl _ | apply List.Sublist.cons)); done))); (focus (intro w' hS'; (try dsimp only at hS'); go_simp; try rfl)); (try simp only [Act.put, List.setIfInBounds_toArray, List.set_cons_zero, List.set_cons_succ])) | (refine tree_any (v := ?_) ?_ rfl rfl ?_ ?_; rotate_left; (focus (first | exact S | (refine S.sub (subL HL0 HL ?_); (repeat (first | exact List.Sublist.refl _ | apply List.Sublist.cons)); done))); (focus (intro w'; go_simp; try rfl)); (try simp only [Act.put, List.setIfInBounds_toArray, List.set_cons_zero, List.set_cons_succ]))) | (refine tree_skip ?_ rfl rfl ?_; (focus (first | exact S | (refine S.sub (subL HL0 HL ?_); (repeat (first | exact List.Sublist.refl _ | apply List.Sublist.cons)); done))); (try simp only [Act.put, List.setIfInBounds_toArray, List.set_cons_zero, List.set_cons_succ])) | (refine tree_actSkip rfl rfl ?_ ?_ tree_stop; (focus (first | exact S | (refine S.sub (subL HL0 HL ?_); (repeat (first | exact List.Sublist.refl _ | apply List.Sublist.cons)); done))); (try simp only [Act.put, List.setIfInBounds_toArray, List.set_cons_zero, List.set_cons_succ])) | (refine tree_act rfl rfl ?_ tree_stop; intro K hK; go_wp2_with (first | (go_at_call 89; refine (C_spec_SharedValid _ _ _).mono ?_; rintro e w ⟨rfl, hb⟩; replace S := S.grow hb; clear hb) | (go_at_call 88; refine (C_spec_JoinShares _ _ _).mono ?_; rintro e w ⟨rfl, hb⟩; replace S := S.grow hb; clear hb) | (go_at_call 87; refine (C_spec_MulRing _ _ _).mono ?_; rintro e w' ⟨rfl, rfl⟩)); (refine hK.out _ _ ?_ ?_; (focus (first | exact fun _ => S | (intro _; refine S.sub (subL HL0 HL ?_); (repeat (first | exact List.Sublist.refl _ | apply List.Sublist.cons)); done) | (refine sink_no ?_; kernel_rfl))); clear hK K; (try simp only [Act.put, List.setIfInBounds_toArray, List.set_cons_zero, List.set_cons_succ]))))
  refine tree_fin ?_
  go_wp2
  go_ret
  exact ⟨rfl, S.below⟩
theorem C_subS' (a b c d x y : Int) (w0 : World) (h : subS ⟨a, b⟩ ⟨c, d⟩ = ⟨x, y⟩) : Calls Try.prog 92 #[.agg #[.int .i64 a, .int .i64 b], .agg #[.int .i64 c, .int .i64 d]] w0 fun e w' => e = .returned (.agg #[.int .i64 x, .int .i64 y]) ∧ Below w0.heap.size w0 w' := by
  have := C_spec_SubShares a b c d w0
  rw [h] at this
  exact this
theorem C_spec_MulV (a b c d t0 t1 t2 t3 t4 t5 dd ee p q : Int) (w0 : World) (g1 : Sh.ok ⟨a, b⟩ = true) (g2 : Sh.ok ⟨c, d⟩ = true) (ht : triOk ⟨⟨t0, t1⟩, ⟨t2, t3⟩, ⟨t4, t5⟩⟩ = true)
    (hd : dOf ⟨a, b⟩ ⟨⟨t0, t1⟩, ⟨t2, t3⟩, ⟨t4, t5⟩⟩ = dd) (he : eOf ⟨c, d⟩ ⟨⟨t0, t1⟩, ⟨t2, t3⟩, ⟨t4, t5⟩⟩ = ee) (hp : mulV ⟨⟨t0, t1⟩, ⟨t2, t3⟩, ⟨t4, t5⟩⟩ dd ee = ⟨p, q⟩) :
    Calls Try.prog 47 #[.agg #[.int .i64 a, .int .i64 b], .agg #[.int .i64 c, .int .i64 d], .agg #[.int .i64 t0, .int .i64 t1, .int .i64 t2, .int .i64 t3, .int .i64 t4, .int .i64 t5]] w0 (MakesMul w0 p q dd ee) := by
  simp only [triOk, Bool.and_eq_true, decide_eq_true_eq] at ht
  obtain ⟨⟨⟨h1, h2⟩, h3⟩, h4⟩ := ht
  have CT := fun w => C_spec_TripleRight t0 t1 t2 t3 t4 t5 w h1 h2 h3 h4
  have J1 := join_sub g1 h1
  have J2 := join_sub g2 h2
  have r1 := sh_ok.1 h1
  have r2 := sh_ok.1 h2
  have r3 := sh_ok.1 h3
  have rd : rv dd = true := by rw [← hd]; exact subR_rv (join_bd g1) (join_bd h1)
  have re : rv ee = true := by rw [← he]; exact subR_rv (join_bd g2) (join_bd h2)
  have hd' : subR (joinS ⟨a, b⟩) (joinS ⟨t0, t1⟩) = dd := hd
  have he' : subR (joinS ⟨c, d⟩) (joinS ⟨t2, t3⟩) = ee := he
  dsimp only at r1 r2 r3
  have b1 := mul_bd rd r2.1
  have b2 := mul_bd re r1.1
  have b3 := mul_bd rd re
  have b4 := mul_bd rd r2.2
  have b5 := mul_bd re r1.2
  have c1 := rv_bd r3.1
  have c2 := rv_bd r3.2
  have hp1 : ro (t4 + dd * t2 + ee * t0 + dd * ee) = p := congrArg Sh.a hp
  have hp2 : ro (t5 + dd * t3 + ee * t1) = q := congrArg Sh.b hp
  have w1 : IntKind.i64.wrap (dd * t2) = dd * t2 := wrap_small (by omega)
  have w2 : IntKind.i64.wrap (t4 + dd * t2) = t4 + dd * t2 := wrap_small (by omega)
  have w3 : IntKind.i64.wrap (ee * t0) = ee * t0 := wrap_small (by omega)
  have w4 : IntKind.i64.wrap (t4 + dd * t2 + ee * t0) = t4 + dd * t2 + ee * t0 := wrap_small (by omega)
  have w5 : IntKind.i64.wrap (dd * ee) = dd * ee := wrap_small (by omega)
  have w6 : IntKind.i64.wrap (t4 + dd * t2 + ee * t0 + dd * ee) = t4 + dd * t2 + ee * t0 + dd * ee := wrap_small (by omega)
  have w7 : IntKind.i64.wrap (dd * t3) = dd * t3 := wrap_small (by omega)
  have w8 : IntKind.i64.wrap (t5 + dd * t3) = t5 + dd * t3 := wrap_small (by omega)
  have w9 : IntKind.i64.wrap (ee * t1) = ee * t1 := wrap_small (by omega)
  have w10 : IntKind.i64.wrap (t5 + dd * t3 + ee * t1) = t5 + dd * t3 + ee * t1 := wrap_small (by omega)
  have C1 : ∀ w, Calls Try.prog 93 #[.int .i64 (t4 + dd * t2 + ee * t0 + dd * ee)] w fun e w' => e = .returned (.int .i64 p) ∧ w = w' := fun w => hp1 ▸ C_spec_l1Ring _ w
  have C2 : ∀ w, Calls Try.prog 93 #[.int .i64 (t5 + dd * t3 + ee * t1)] w fun e w' => e = .returned (.int .i64 q) ∧ w = w' := fun w => hp2 ▸ C_spec_l1Ring _ w
  clear h1 h2 h3 h4 hd he hp r1 r2 r3 rd re b1 b2 b3 b4 b5 c1 c2
  rw [hd'] at J1
  rw [he'] at J2
  obtain ⟨⟨x10, x11⟩, hx1⟩ : ∃ x, subS ⟨a, b⟩ ⟨t0, t1⟩ = x := ⟨_, rfl⟩
  obtain ⟨⟨x20, x21⟩, hx2⟩ : ∃ x, subS ⟨c, d⟩ ⟨t2, t3⟩ = x := ⟨_, rfl⟩
  rw [hx1] at J1
  rw [hx2] at J2
  have H1 := Lib.hid hx1
  have H2 := Lib.hid hx2
  clear hx1 hx2
  have HJ1 := Lib.hid J1
  have HJ2 := Lib.hid J2
  clear J1 J2
  have CR := fun n x w (h : ro n = x) => (h ▸ C_spec_l1Ring n w : Calls Try.prog 93 #[.int .i64 n] w fun e w' => e = .returned (.int .i64 x) ∧ w = w')
  have HP1 := Lib.hid hp1
  have HP2 := Lib.hid hp2
  have CJ := fun x y z w (h : joinS ⟨x, y⟩ = z) => (h ▸ C_spec_JoinShares x y w : Calls Try.prog 88 #[.agg #[.int .i64 x, .int .i64 y]] w fun e w' => e = .returned (.int .i64 z) ∧ Below w.heap.size w w')
  clear hd' he' hp1 hp2 C1 C2
  unfold MakesMul
  obtain ⟨L, HL, S⟩ := st_start w0; have F : True := trivial
  go_enter Try.func47, Try.ntmps47
  go_upto_region 5 with (first | (refine wpList_box rfl S _ _ rfl ?_; intro g w L hM T; clear F S; (try rw [HL.out] at hM); clear HL; (try simp [Act.put, Act.eval, Value.cells, splice] at hM); have HL := Lib.hid hM; clear hM; have S := T; clear T; have F := factsAll HL S; (try simp only [factsOf, cellsFrom, and_true, true_and, Nat.reduceAdd] at F)) | (refine wpList_alloc rfl S 69 _ rfl zSh ?_; intro g w L hM T; clear F S; (try rw [HL.out] at hM); clear HL; (try simp [Act.put, Act.eval, Value.cells, splice] at hM); have HL := Lib.hid hM; clear hM; have S := T; clear T; have F := factsAll HL S; (try simp only [factsOf, cellsFrom, and_true, true_and, Nat.reduceAdd] at F)) | (go_at_call 89; refine (C_spec_SharedValid _ _ _).mono ?_; rintro e w ⟨rfl, hb⟩; replace S := S.grow hb; clear hb) | (go_at_call 90; refine (CT _).mono ?_; rintro e w ⟨rfl, hb⟩; replace S := S.grow hb; clear hb) | (go_at_call 92; refine (C_subS' _ _ _ _ _ _ _ (by first | exact H1.out | exact H2.out)).mono ?_; rintro e w ⟨rfl, hb⟩; replace S := S.grow hb; clear hb) | (go_at_call 88; refine (CJ _ _ _ _ (by first | exact HJ1.out | exact HJ2.out)).mono ?_; rintro e w ⟨rfl, hb⟩; replace S := S.grow hb; clear hb))
  clear CT g1 g2 CJ
  have HL0 := HL; have F0 := F; refine wp_region_tree (S := fun w' => St w0 w' L) (.calm 0 (.calm 1 (.calm 2 (.calm 3 (.calm 4 (.calm 5 (.calm 6 (.calm 7 (.calm 8 (.calm 9 (.calm 10 (.calm 11 (.calm 12 (.calm 13 (.calm 14 (.calm 15 (.calm 16 (.calm 17 (.calm 18 (.calm 20 (.calm 21 (.calm 22 (.calm 23 (.calm 24 (.calm 25 (.calm 26 (.calm 27 (.calm 28 (.calm 29 (.calm 30 (.calm 31 (.calm 32 (.calm 33 (.calm 34 (.act 19 (.act 35 (.calm 36 (.act 37 (.act 38 .fin .stop) .stop)) (.act 37 (.act 35 (.calm 36 (.act 38 .fin .stop)) .stop) .stop)) (.act 37 (.act 19 (.act 35 (.calm 36 (.act 38 .fin .stop)) .stop) .stop) .stop)))))))))))))))))))))))))))))))))))) (by kernel_rfl) (by kernel_rfl) (by kernel_rfl) (by intro c a d v w h; cases d <;> exact h) ?_; replace S := S.drew
  repeat' (first | (first | (refine tree_calm (v := ?_) ?_ rfl (by decide +kernel) rfl ?_ ?_; rotate_left; (focus (first | exact S | (refine S.sub (subL HL0 HL ?_); (repeat (first | exact List.Sublist.refl _ | apply List.Sublist.cons)); done))); (focus (intro w' hS'; (try dsimp only at hS'); go_simp; try rfl)); (try simp only [Act.put, List.setIfInBounds_toArray, List.set_cons_zero, List.set_cons_succ])) | (refine tree_any (v := ?_) ?_ rfl rfl ?_ ?_; rotate_left; (focus (first | exact S | (refine S.sub (subL HL0 HL ?_); (repeat (first | exact List.Sublist.refl _ | apply List.Sublist.cons)); done))); (focus (intro w'; go_simp; try rfl)); (try simp only [Act.put, List.setIfInBounds_toArray, List.set_cons_zero, List.set_cons_succ]))) | (refine tree_skip ?_ rfl rfl ?_; (focus (first | exact S | (refine S.sub (subL HL0 HL ?_); (repeat (first | exact List.Sublist.refl _ | apply List.Sublist.cons)); done))); (try simp only [Act.put, List.setIfInBounds_toArray, List.set_cons_zero, List.set_cons_succ])) | exact tree_stop | (refine tree_act rfl rfl ?_ ?_) | (intro K hK; (refine wp_alloc S 69 _ rfl zSh ?_; intro g w L hM T; clear F S; (try rw [HL.out] at hM); clear HL; (try simp [Act.put, Act.eval, Value.cells, splice] at hM); have HL := Lib.hid hM; clear hM; have S := T; clear T; have F := factsAll HL S; (try simp only [factsOf, cellsFrom, and_true, true_and, Nat.reduceAdd] at F)); (refine hK.out _ _ ?_ ?_; (focus (first | exact fun _ => S | (intro _; refine S.sub (subL HL0 HL ?_); (repeat (first | exact List.Sublist.refl _ | apply List.Sublist.cons)); done) | (refine sink_no ?_; kernel_rfl))); clear hK K; (try simp only [Act.put, List.setIfInBounds_toArray, List.set_cons_zero, List.set_cons_succ]))) | (intro K hK; (refine wp_store_box S _ _ _ rfl 0 _ _ _ _ (atOf HL rfl) rfl _ rfl (by kernel_rfl) rfl rfl ?_; intro w L hM T; clear F S; (try rw [HL.out] at hM); clear HL; (try simp [Act.put, Act.eval, Value.cells, splice] at hM); have HL := Lib.hid hM; clear hM; have S := T; clear T; have F := factsAll HL S; (try simp only [factsOf, cellsFrom, and_true, true_and, Nat.reduceAdd] at F)); (refine hK.out _ _ ?_ ?_; (focus (first | exact fun _ => S | (intro _; refine S.sub (subL HL0 HL ?_); (repeat (first | exact List.Sublist.refl _ | apply List.Sublist.cons)); done) | (refine sink_no ?_; kernel_rfl))); clear hK K; (try simp only [Act.put, List.setIfInBounds_toArray, List.set_cons_zero, List.set_cons_succ]))) | (intro K hK; go_wp2_with (first | (go_at_call 93; refine (CR _ _ _ (by first | exact HP1.out | exact HP2.out)).mono ?_; rintro e w' ⟨rfl, rfl⟩)); (refine hK.out _ _ ?_ ?_; (focus (first | exact fun _ => S | (intro _; refine S.sub (subL HL0 HL ?_); (repeat (first | exact List.Sublist.refl _ | apply List.Sublist.cons)); done) | (refine sink_no ?_; kernel_rfl))); clear hK K; (try simp only [Act.put, List.setIfInBounds_toArray, List.set_cons_zero, List.set_cons_succ]))))
  all_goals
    refine tree_fin ?_
    clear HL0 F0
    go_wp2_with (first | (refine wpList_lit rfl S _ _ _ rfl 3 Try.underlying22 infoInt (by simp [Act.eval]) (by simp [Act.eval, Value.oneCell']) rfl rfl rfl ?_; intro g w L hM T; clear F S; (try rw [HL.out] at hM); clear HL; (try simp [Act.put, Act.eval, Value.cells, splice] at hM); have HL := Lib.hid hM; clear hM; have S := T; clear T; have F := factsAll HL S; (try simp only [factsOf, cellsFrom, and_true, true_and, Nat.reduceAdd] at F)) | (refine wpList_store_box rfl S _ _ _ rfl 2 _ _ _ _ (atOf HL rfl) rfl _ rfl (by kernel_rfl) rfl rfl ?_; intro w L hM T; clear F S; (try rw [HL.out] at hM); clear HL; (try simp [Act.put, Act.eval, Value.cells, splice] at hM); have HL := Lib.hid hM; clear hM; have S := T; clear T; have F := factsAll HL S; (try simp only [factsOf, cellsFrom, and_true, true_and, Nat.reduceAdd] at F)))
    refine ret3 rfl (resCell S HL 2 rfl rfl (by kernel_rfl)) (show _ = _ from rfl) (show _ = _ from rfl) rfl ?_
    rw [HL.out] at S
    have T := S.asRow (p := 0) (n := 2) (size := 1) rfl rfl (by simp [maxLen])
    exact ⟨_, rfl, T.sub (by repeat (first | exact .refl _ | exact List.nil_sublist _ | apply List.Sublist.cons_cons | apply List.Sublist.cons))⟩
end Go.Proofs.Ytjihfeffonadmaa
