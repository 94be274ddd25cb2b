/-
  Triples behind a seed; products of shared numbers.
-/
import Derived.Test.YtjihfeffonadmaaRndL
import Derived.Test.YtjihfeffonadmaaMulS
import Derived.Test.YtjihfeffonadmaaMatT
namespace Go.Proofs.Ytjihfeffonadmaa
set_option linter.unusedSimpArgs false
set_option linter.unusedVariables false
set_option linter.unusedSectionVars false
open Go Go.RowKit
set_option maxHeartbeats 8000000
set_option maxRecDepth 20000
def triAt (s : Int) : Tri :=
  ⟨⟨(rndTo s 5).getD 0 0, (rndTo s 5).getD 1 0⟩, ⟨(rndTo s 5).getD 2 0, (rndTo s 5).getD 3 0⟩, splitN (mulR (joinS ⟨(rndTo s 5).getD 0 0, (rndTo s 5).getD 1 0⟩) (joinS ⟨(rndTo s 5).getD 2 0, (rndTo s 5).getD 3 0⟩)) ((rndTo s 5).getD 4 0)⟩
theorem sh_ok2 {a b : Int} (ha : rv a = true) (hb : rv b = true) : (Sh.mk a b).ok = true := by simp [Sh.ok, ha, hb]
theorem triAt_ok (s : Int) : triOk (triAt s) = true := by
  have h := fun k hk => rndTo_ring s 5 k hk
  have o1 := sh_ok2 (h 0 (by omega)) (h 1 (by omega))
  have o2 := sh_ok2 (h 2 (by omega)) (h 3 (by omega))
  obtain ⟨o3, e3⟩ := split_ok (mulR_rv (join_bd o1) (join_bd o2)) (h 4 (by omega))
  simp only [triOk, triAt, o1, o2, o3, e3, Bool.and_self, decide_true]
theorem five_of : ∀ {zs : List Int}, zs.length = 5 → ∃ a b c d e, zs = [a, b, c, d, e]
  | [a, b, c, d, e], _ => ⟨a, b, c, d, e, rfl⟩
def triL (t : Tri) : Value := .agg #[.int .i64 (t).a.a, .int .i64 (t).a.b, .int .i64 (t).b.a, .int .i64 (t).b.b, .int .i64 (t).c.a, .int .i64 (t).c.b]
theorem C_impl_MakeTriple (s : Int) (w0 : World) (hs : seedOk s = true) :
    Calls Try.prog 52 #[.int .i64 s] w0 fun e w' => e = .returned (.tuple #[triL (triAt s), .int .i64 (seedAt s 5)]) ∧ Below w0.heap.size w0 w' := by
  have CV := fun w => C_seedValid s w
  have CN := fun w => C_RandomList s 5 w hs (by omega)
  rw [hs] at CV
  clear hs
  unfold MakesRnd at CN
  unfold triL triAt
  obtain ⟨r0, r1, r2, r3, r4, hr⟩ := five_of (rndTo_length s 5)
  rw [hr] at CN ⊢
  simp only [List.getD_cons_zero, List.getD_cons_succ]
  clear hr
  have CP := fun e f w => C_product r0 r1 r2 r3 e f w
  have CS := fun w => C_impl_SplitNumber (mulR (joinS ⟨r0, r1⟩) (joinS ⟨r2, r3⟩)) r4 w
  generalize mulR (joinS ⟨r0, r1⟩) (joinS ⟨r2, r3⟩) = pr at CP CS ⊢
  generalize splitN pr r4 = q at CS ⊢
  obtain ⟨q0, q1⟩ := q
  dsimp only at CS ⊢
  obtain ⟨L, HL, S⟩ := st_start w0; have F : True := trivial
  go_enter Try.func52, Try.ntmps52
  go_upto_region 4 with (first | (refine wpList_alloc rfl S 71 _ rfl zTri ?_; intro gr w L hM T; clear F S; (try rw [HL.out] at hM); clear HL; (try simp [Act.put, Act.eval, Value.cells, splice] at hM); have HL := Lib.hid hM; clear hM; have S := T; clear T; have F := factsAll HL S; (try simp only [factsOf, cellsFrom, and_true, true_and, Nat.reduceAdd] at F)) | (go_at_call 50; refine (CV _).mono ?_; rintro e w' ⟨rfl, rfl⟩) | (go_at_call 96; refine (CN _).mono ?_; rintro e w ⟨u, rfl, T0⟩; obtain ⟨L, hM, T⟩ := st_name (S.call T0); clear T0; clear F S; (try rw [HL.out] at hM); clear HL; (try simp [Act.put, Act.eval, Value.cells, splice] at hM); have HL := Lib.hid hM; clear hM; have S := T; clear T; have F := factsAll HL S; (try simp only [factsOf, cellsFrom, and_true, true_and, Nat.reduceAdd] at F)))
  obtain ⟨gv, cv, rfl, hcv, hmv⟩ := S.rowAt (p := 0) (atOf HL rfl) (by omega)
  have D0 := fun w' (S' : St w0 w' L) => (S'.rowCell (p := 0) (atOf HL rfl) 0 (by omega))
  have D1 := fun w' (S' : St w0 w' L) => (S'.rowCell (p := 0) (atOf HL rfl) 1 (by omega))
  have D2 := fun w' (S' : St w0 w' L) => (S'.rowCell (p := 0) (atOf HL rfl) 2 (by omega))
  have D3 := fun w' (S' : St w0 w' L) => (S'.rowCell (p := 0) (atOf HL rfl) 3 (by omega))
  simp only [ints, List.map_cons, List.map_nil, List.getElem?_cons_zero, List.getElem?_cons_succ] at D0 D1 D2 D3
  clear CN CV
  have HL0 := HL; have F0 := F; refine wp_region_tree (S := fun w' => St w0 w' L) (.calm 0 (.calm 1 (.calm 2 (.calm 3 (.calm 4 (.calm 5 (.calm 6 (.calm 7 (.calm 8 (.calm 9 (.calm 10 (.calm 11 (.calm 12 (.calm 13 (.calm 14 (.act 15 (.act 16 .fin .stop) .stop)))))))))))))))) (by kernel_rfl) (by kernel_rfl) (by kernel_rfl) (by intro c a d v w h; cases d <;> exact h) ?_; replace S := S.drew
  repeat (first | (first | (refine tree_calm (v := ?_) ?_ rfl (by decide +kernel) rfl ?_ ?_; rotate_left; (focus (first | exact S | (refine S.sub (subL HL0 HL ?_); (repeat (first | exact List.Sublist.refl _ | apply List.Sublist.cons)); done))); (focus (intro w' hS'; (try dsimp only at hS'); go_simp; try rfl)); (try simp only [Act.put, List.setIfInBounds_toArray, List.set_cons_zero, List.set_cons_succ])) | (refine tree_any (v := ?_) ?_ rfl rfl ?_ ?_; rotate_left; (focus (first | exact S | (refine S.sub (subL HL0 HL ?_); (repeat (first | exact List.Sublist.refl _ | apply List.Sublist.cons)); done))); (focus (intro w'; go_simp; try rfl)); (try simp only [Act.put, List.setIfInBounds_toArray, List.set_cons_zero, List.set_cons_succ]))) | (refine tree_skip ?_ rfl rfl ?_; (focus (first | exact S | (refine S.sub (subL HL0 HL ?_); (repeat (first | exact List.Sublist.refl _ | apply List.Sublist.cons)); done))); (try simp only [Act.put, List.setIfInBounds_toArray, List.set_cons_zero, List.set_cons_succ])) | (refine tree_act rfl rfl ?_ tree_stop; intro K hK; (refine wp_alloc S 71 _ rfl zTri ?_; intro g w L hM T; clear F S; (try rw [HL.out] at hM); clear HL; (try simp [Act.put, Act.eval, Value.cells, splice] at hM); have HL := Lib.hid hM; clear hM; have S := T; clear T; have F := factsAll HL S; (try simp only [factsOf, cellsFrom, and_true, true_and, Nat.reduceAdd] at F)); (refine hK.out _ _ ?_ ?_; (focus (first | exact fun _ => S | (intro _; refine S.sub (subL HL0 HL ?_); (repeat (first | exact List.Sublist.refl _ | apply List.Sublist.cons)); done) | (refine sink_no ?_; kernel_rfl))); clear hK K; (try simp only [Act.put, List.setIfInBounds_toArray, List.set_cons_zero, List.set_cons_succ]))) | (refine tree_act rfl rfl ?_ tree_stop; intro K hK; (refine wp_store_box S _ _ _ rfl 0 _ _ _ _ (atOf HL rfl) rfl _ rfl (by kernel_rfl) rfl rfl ?_; intro w L hM T; clear F S; (try rw [HL.out] at hM); clear HL; (try simp [Act.put, Act.eval, Value.cells, splice] at hM); have HL := Lib.hid hM; clear hM; have S := T; clear T; have F := factsAll HL S; (try simp only [factsOf, cellsFrom, and_true, true_and, Nat.reduceAdd] at F)); (refine hK.out _ _ ?_ ?_; (focus (first | exact fun _ => S | (intro _; refine S.sub (subL HL0 HL ?_); (repeat (first | exact List.Sublist.refl _ | apply List.Sublist.cons)); done) | (refine sink_no ?_; kernel_rfl))); clear hK K; (try simp only [Act.put, List.setIfInBounds_toArray, List.set_cons_zero, List.set_cons_succ]))) | (refine tree_act rfl rfl ?_ tree_stop; intro K hK; go_wp2_with (first | fail); (refine hK.out _ _ ?_ ?_; (focus (first | exact fun _ => S | (intro _; refine S.sub (subL HL0 HL ?_); (repeat (first | exact List.Sublist.refl _ | apply List.Sublist.cons)); done) | (refine sink_no ?_; kernel_rfl))); clear hK K; (try simp only [Act.put, List.setIfInBounds_toArray, List.set_cons_zero, List.set_cons_succ]))))
  refine tree_fin ?_
  clear HL0 F0 D0 D1 D2 D3
  go_upto_region 5 with fail
  have D4 := fun w' (S' : St w0 w' L) => (S'.rowCell (p := 1) (atOf HL rfl) 4 (by omega))
  simp only [ints, List.map_cons, List.map_nil, List.getElem?_cons_zero, List.getElem?_cons_succ] at D4
  have HL0 := HL; have F0 := F; refine wp_region_tree (S := fun w' => St w0 w' L) (.calm 0 (.calm 2 (.calm 3 (.calm 4 (.act 1 (.act 5 (.calm 6 (.act 7 .fin .stop)) .stop) .stop))))) (by kernel_rfl) (by kernel_rfl) (by kernel_rfl) (by intro c a d v w h; cases d <;> exact h) ?_; replace S := S.drew
  repeat (first | (first | (refine tree_calm (v := ?_) ?_ rfl (by decide +kernel) rfl ?_ ?_; rotate_left; (focus (first | exact S | (refine S.sub (subL HL0 HL ?_); (repeat (first | exact List.Sublist.refl _ | apply List.Sublist.cons)); done))); (focus (intro w' hS'; (try dsimp only at hS'); go_simp; try rfl)); (try simp only [Act.put, List.setIfInBounds_toArray, List.set_cons_zero, List.set_cons_succ])) | (refine tree_any (v := ?_) ?_ rfl rfl ?_ ?_; rotate_left; (focus (first | exact S | (refine S.sub (subL HL0 HL ?_); (repeat (first | exact List.Sublist.refl _ | apply List.Sublist.cons)); done))); (focus (intro w'; go_simp; try rfl)); (try simp only [Act.put, List.setIfInBounds_toArray, List.set_cons_zero, List.set_cons_succ]))) | (refine tree_skip ?_ rfl rfl ?_; (focus (first | exact S | (refine S.sub (subL HL0 HL ?_); (repeat (first | exact List.Sublist.refl _ | apply List.Sublist.cons)); done))); (try simp only [Act.put, List.setIfInBounds_toArray, List.set_cons_zero, List.set_cons_succ])) | (refine tree_act rfl rfl ?_ tree_stop; intro K hK; (refine wp_store_box S _ _ _ rfl 0 _ _ _ _ (atOf HL rfl) rfl _ rfl (by kernel_rfl) rfl rfl ?_; intro w L hM T; clear F S; (try rw [HL.out] at hM); clear HL; (try simp [Act.put, Act.eval, Value.cells, splice] at hM); have HL := Lib.hid hM; clear hM; have S := T; clear T; have F := factsAll HL S; (try simp only [factsOf, cellsFrom, and_true, true_and, Nat.reduceAdd] at F)); (refine hK.out _ _ ?_ ?_; (focus (first | exact fun _ => S | (intro _; refine S.sub (subL HL0 HL ?_); (repeat (first | exact List.Sublist.refl _ | apply List.Sublist.cons)); done) | (refine sink_no ?_; kernel_rfl))); clear hK K; (try simp only [Act.put, List.setIfInBounds_toArray, List.set_cons_zero, List.set_cons_succ]))) | (refine tree_act rfl rfl ?_ tree_stop; intro K hK; go_wp2_with (first | (go_at_call 98; refine (CP _ _ _).mono ?_; rintro e w ⟨rfl, hb⟩; replace S := S.grow hb; clear hb) | (go_at_call 97; refine (CS _).mono ?_; rintro e w ⟨rfl, hb⟩; replace S := S.grow hb; clear hb)); (refine hK.out _ _ ?_ ?_; (focus (first | exact fun _ => S | (intro _; refine S.sub (subL HL0 HL ?_); (repeat (first | exact List.Sublist.refl _ | apply List.Sublist.cons)); done) | (refine sink_no ?_; kernel_rfl))); clear hK K; (try simp only [Act.put, List.setIfInBounds_toArray, List.set_cons_zero, List.set_cons_succ]))))
  refine tree_fin ?_
  clear HL0 F0 D4
  go_wp2_with (first | (refine wpList_store_box rfl S _ _ _ rfl 2 _ _ _ _ (atOf HL rfl) rfl _ rfl (by kernel_rfl) rfl rfl ?_; intro w L hM T; clear F S; (try rw [HL.out] at hM); clear HL; (try simp [Act.put, Act.eval, Value.cells, splice] at hM); have HL := Lib.hid hM; clear hM; have S := T; clear T; have F := factsAll HL S; (try simp only [factsOf, cellsFrom, and_true, true_and, Nat.reduceAdd] at F)))
  refine ret2 rfl (resCell S HL 2 rfl rfl (by kernel_rfl)) (show _ = _ from rfl) rfl ?_
  exact ⟨rfl, S.below⟩
theorem C_spec_MakeTriple (s : Int) (w0 : World) (hs : seedOk s = true) :
    Calls Try.prog 46 #[.int .i64 s] w0 fun e w' => e = .returned (.tuple #[triL (triAt s), .int .i64 (seedAt s 5)]) ∧ Below w0.heap.size w0 w' := by
  have CV : ∀ w : World, Calls Try.prog 45 #[.int .i64 s, .int .i64 1, .int .i64 2147483646] w fun e w' => e = .returned (.bool (seedOk s)) ∧ w = w' := fun w => C_spec_l1In s 1 2147483646 w
  have hb := seedOk_bd hs
  have CN := fun w => C_spec_l4List s 5 w ⟨by omega, hb.2⟩ (by omega)
  rw [hs] at CV
  clear hs hb
  unfold MakesRnd at CN
  unfold triL triAt
  obtain ⟨r0, r1, r2, r3, r4, hr⟩ := five_of (rndTo_length s 5)
  rw [hr] at CN ⊢
  simp only [List.getD_cons_zero, List.getD_cons_succ]
  clear hr
  have CJ1 := fun w => C_spec_JoinShares r0 r1 w
  have CJ2 := fun w => C_spec_JoinShares r2 r3 w
  have CM := fun a b q w (h : mulR a b = q) => h ▸ C_spec_MulRing a b w
  have HM : Hid (mulR (joinS ⟨r0, r1⟩) (joinS ⟨r2, r3⟩) = mulR (joinS ⟨r0, r1⟩) (joinS ⟨r2, r3⟩)) := Lib.hid rfl
  have CS := fun w => C_spec_SplitNumber (mulR (joinS ⟨r0, r1⟩) (joinS ⟨r2, r3⟩)) r4 w
  clear HM CM CJ1 CJ2
  generalize splitN (mulR (joinS ⟨r0, r1⟩) (joinS ⟨r2, r3⟩)) r4 = q at CS ⊢
  obtain ⟨q0, q1⟩ := q
  dsimp only at CS ⊢
  obtain ⟨L, HL, S⟩ := st_start w0; have F : True := trivial
  go_enter Try.func46, Try.ntmps46
  go_upto_region 4 with (first | (refine wpList_alloc rfl S 71 _ rfl zTri ?_; intro gr w L hM T; clear F S; (try rw [HL.out] at hM); clear HL; (try simp [Act.put, Act.eval, Value.cells, splice] at hM); have HL := Lib.hid hM; clear hM; have S := T; clear T; have F := factsAll HL S; (try simp only [factsOf, cellsFrom, and_true, true_and, Nat.reduceAdd] at F)) | (go_at_call 45; refine (CV _).mono ?_; rintro e w' ⟨rfl, rfl⟩) | (go_at_call 85; refine (CN _).mono ?_; rintro e w ⟨u, rfl, T0⟩; obtain ⟨L, hM, T⟩ := st_name (S.call T0); clear T0; clear F S; (try rw [HL.out] at hM); clear HL; (try simp [Act.put, Act.eval, Value.cells, splice] at hM); have HL := Lib.hid hM; clear hM; have S := T; clear T; have F := factsAll HL S; (try simp only [factsOf, cellsFrom, and_true, true_and, Nat.reduceAdd] at F)))
  obtain ⟨gv, cv, rfl, hcv, hmv⟩ := S.rowAt (p := 0) (atOf HL rfl) (by omega)
  have D0 := fun w' (S' : St w0 w' L) => (S'.rowCell (p := 0) (atOf HL rfl) 0 (by omega))
  have D1 := fun w' (S' : St w0 w' L) => (S'.rowCell (p := 0) (atOf HL rfl) 1 (by omega))
  have D2 := fun w' (S' : St w0 w' L) => (S'.rowCell (p := 0) (atOf HL rfl) 2 (by omega))
  have D3 := fun w' (S' : St w0 w' L) => (S'.rowCell (p := 0) (atOf HL rfl) 3 (by omega))
  simp only [ints, List.map_cons, List.map_nil, List.getElem?_cons_zero, List.getElem?_cons_succ] at D0 D1 D2 D3
  clear CN CV
  have HL0 := HL; have F0 := F; refine wp_region_tree (S := fun w' => St w0 w' L) (.calm 0 (.calm 1 (.calm 2 (.calm 3 (.calm 4 (.calm 5 (.calm 6 (.calm 7 (.calm 8 (.calm 9 (.calm 10 (.calm 11 (.calm 12 (.calm 13 (.calm 14 (.act 15 (.act 16 .fin .stop) .stop)))))))))))))))) (by kernel_rfl) (by kernel_rfl) (by kernel_rfl) (by intro c a d v w h; cases d <;> exact h) ?_; replace S := S.drew
  repeat (first | (first | (refine tree_calm (v := ?_) ?_ rfl (by decide +kernel) rfl ?_ ?_; rotate_left; (focus (first | exact S | (refine S.sub (subL HL0 HL ?_); (repeat (first | exact List.Sublist.refl _ | apply List.Sublist.cons)); done))); (focus (intro w' hS'; (try dsimp only at hS'); go_simp; try rfl)); (try simp only [Act.put, List.setIfInBounds_toArray, List.set_cons_zero, List.set_cons_succ])) | (refine tree_any (v := ?_) ?_ rfl rfl ?_ ?_; rotate_left; (focus (first | exact S | (refine S.sub (subL HL0 HL ?_); (repeat (first | exact List.Sublist.refl _ | apply List.Sublist.cons)); done))); (focus (intro w'; go_simp; try rfl)); (try simp only [Act.put, List.setIfInBounds_toArray, List.set_cons_zero, List.set_cons_succ]))) | (refine tree_skip ?_ rfl rfl ?_; (focus (first | exact S | (refine S.sub (subL HL0 HL ?_); (repeat (first | exact List.Sublist.refl _ | apply List.Sublist.cons)); done))); (try simp only [Act.put, List.setIfInBounds_toArray, List.set_cons_zero, List.set_cons_succ])) | (refine tree_act rfl rfl ?_ tree_stop; intro K hK; (refine wp_alloc S 71 _ rfl zTri ?_; intro g w L hM T; clear F S; (try rw [HL.out] at hM); clear HL; (try simp [Act.put, Act.eval, Value.cells, splice] at hM); have HL := Lib.hid hM; clear hM; have S := T; clear T; have F := factsAll HL S; (try simp only [factsOf, cellsFrom, and_true, true_and, Nat.reduceAdd] at F)); (refine hK.out _ _ ?_ ?_; (focus (first | exact fun _ => S | (intro _; refine S.sub (subL HL0 HL ?_); (repeat (first | exact List.Sublist.refl _ | apply List.Sublist.cons)); done) | (refine sink_no ?_; kernel_rfl))); clear hK K; (try simp only [Act.put, List.setIfInBounds_toArray, List.set_cons_zero, List.set_cons_succ]))) | (refine tree_act rfl rfl ?_ tree_stop; intro K hK; (refine wp_store_box S _ _ _ rfl 0 _ _ _ _ (atOf HL rfl) rfl _ rfl (by kernel_rfl) rfl rfl ?_; intro w L hM T; clear F S; (try rw [HL.out] at hM); clear HL; (try simp [Act.put, Act.eval, Value.cells, splice] at hM); have HL := Lib.hid hM; clear hM; have S := T; clear T; have F := factsAll HL S; (try simp only [factsOf, cellsFrom, and_true, true_and, Nat.reduceAdd] at F)); (refine hK.out _ _ ?_ ?_; (focus (first | exact fun _ => S | (intro _; refine S.sub (subL HL0 HL ?_); (repeat (first | exact List.Sublist.refl _ | apply List.Sublist.cons)); done) | (refine sink_no ?_; kernel_rfl))); clear hK K; (try simp only [Act.put, List.setIfInBounds_toArray, List.set_cons_zero, List.set_cons_succ]))) | (refine tree_act rfl rfl ?_ tree_stop; intro K hK; go_wp2_with (first | fail); (refine hK.out _ _ ?_ ?_; (focus (first | exact fun _ => S | (intro _; refine S.sub (subL HL0 HL ?_); (repeat (first | exact List.Sublist.refl _ | apply List.Sublist.cons)); done) | (refine sink_no ?_; kernel_rfl))); clear hK K; (try simp only [Act.put, List.setIfInBounds_toArray, List.set_cons_zero, List.set_cons_succ]))))
  refine tree_fin ?_
  clear HL0 F0 D0 D1 D2 D3
  go_upto_region 5 with fail
  have D4 := fun w' (S' : St w0 w' L) => (S'.rowCell (p := 1) (atOf HL rfl) 4 (by omega))
  simp only [ints, List.map_cons, List.map_nil, List.getElem?_cons_zero, List.getElem?_cons_succ] at D4
  have HL0 := HL; have F0 := F; refine wp_region_tree (S := fun w' => St w0 w' L) (.calm 0 (.calm 1 (.calm 3 (.calm 4 (.calm 7 (.calm 8 (.calm 9 (.act 2 (.act 5 (.act 6 (.act 10 (.calm 11 (.act 12 .fin .stop)) .stop) .stop) .stop) .stop)))))))) (by kernel_rfl) (by kernel_rfl) (by kernel_rfl) (by intro c a d v w h; cases d <;> exact h) ?_; replace S := S.drew
  repeat (first | (first | (refine tree_calm (v := ?_) ?_ rfl (by decide +kernel) rfl ?_ ?_; rotate_left; (focus (first | exact S | (refine S.sub (subL HL0 HL ?_); (repeat (first | exact List.Sublist.refl _ | apply List.Sublist.cons)); done))); (focus (intro w' hS'; (try dsimp only at hS'); go_simp; try rfl)); (try simp only [Act.put, List.setIfInBounds_toArray, List.set_cons_zero, List.set_cons_succ])) | (refine tree_any (v := ?_) ?_ rfl rfl ?_ ?_; rotate_left; (focus (first | exact S | (refine S.sub (subL HL0 HL ?_); (repeat (first | exact List.Sublist.refl _ | apply List.Sublist.cons)); done))); (focus (intro w'; go_simp; try rfl)); (try simp only [Act.put, List.setIfInBounds_toArray, List.set_cons_zero, List.set_cons_succ]))) | (refine tree_skip ?_ rfl rfl ?_; (focus (first | exact S | (refine S.sub (subL HL0 HL ?_); (repeat (first | exact List.Sublist.refl _ | apply List.Sublist.cons)); done))); (try simp only [Act.put, List.setIfInBounds_toArray, List.set_cons_zero, List.set_cons_succ])) | (refine tree_act rfl rfl ?_ tree_stop; intro K hK; (refine wp_store_box S _ _ _ rfl 0 _ _ _ _ (atOf HL rfl) rfl _ rfl (by kernel_rfl) rfl rfl ?_; intro w L hM T; clear F S; (try rw [HL.out] at hM); clear HL; (try simp [Act.put, Act.eval, Value.cells, splice] at hM); have HL := Lib.hid hM; clear hM; have S := T; clear T; have F := factsAll HL S; (try simp only [factsOf, cellsFrom, and_true, true_and, Nat.reduceAdd] at F)); (refine hK.out _ _ ?_ ?_; (focus (first | exact fun _ => S | (intro _; refine S.sub (subL HL0 HL ?_); (repeat (first | exact List.Sublist.refl _ | apply List.Sublist.cons)); done) | (refine sink_no ?_; kernel_rfl))); clear hK K; (try simp only [Act.put, List.setIfInBounds_toArray, List.set_cons_zero, List.set_cons_succ]))) | (refine tree_act rfl rfl ?_ tree_stop; intro K hK; go_wp2_with (first | (go_at_call 88; refine (C_spec_JoinShares _ _ _).mono ?_; rintro e w ⟨rfl, hb⟩; replace S := S.grow hb; clear hb) | (go_at_call 87; refine (C_spec_MulRing _ _ _).mono ?_; rintro e w' ⟨rfl, rfl⟩) | (go_at_call 86; refine (CS _).mono ?_; rintro e w ⟨rfl, hb⟩; replace S := S.grow hb; clear hb)); (refine hK.out _ _ ?_ ?_; (focus (first | exact fun _ => S | (intro _; refine S.sub (subL HL0 HL ?_); (repeat (first | exact List.Sublist.refl _ | apply List.Sublist.cons)); done) | (refine sink_no ?_; kernel_rfl))); clear hK K; (try simp only [Act.put, List.setIfInBounds_toArray, List.set_cons_zero, List.set_cons_succ]))))
  refine tree_fin ?_
  clear HL0 F0 D4
  go_wp2_with (first | (refine wpList_store_box rfl S _ _ _ rfl 2 _ _ _ _ (atOf HL rfl) rfl _ rfl (by kernel_rfl) rfl rfl ?_; intro w L hM T; clear F S; (try rw [HL.out] at hM); clear HL; (try simp [Act.put, Act.eval, Value.cells, splice] at hM); have HL := Lib.hid hM; clear hM; have S := T; clear T; have F := factsAll HL S; (try simp only [factsOf, cellsFrom, and_true, true_and, Nat.reduceAdd] at F)))
  refine ret2 rfl (resCell S HL 2 rfl rfl (by kernel_rfl)) (show _ = _ from rfl) rfl ?_
  exact ⟨rfl, S.below⟩
end Go.Proofs.Ytjihfeffonadmaa
