/-
  Proved here: batches are sums.
-/
import Derived.Test.YtdgeiooacghcoaaHead
import Derived.Test.YtdgeiooacghcoaaDrawS
import Derived.Test.YtdgeiooacghcoaaBatch
import Derived.Test.YtdgeiooacghcoaaSame
import Derived.Test.YtdgeiooacghcoaaBytes
namespace Go.Proofs.Ytdgeiooacghcoaa
set_option linter.unusedSimpArgs false
set_option linter.unusedVariables false
set_option linter.unusedSectionVars false
open Go Go.RowKit Go.ChangeShapes Go.WideShapes Go.ChangeAt
theorem ints_take (zs : List Int) (k : Nat) : ints (zs.take k) = (ints zs).take k := by simp [ints, List.map_take]
theorem ints_drop (zs : List Int) (k : Nat) : ints (zs.drop k) = (ints zs).drop k := by simp [ints, List.map_drop]
theorem batch_none {n : Nat} {zs ts : List Int} (h : (batchSum n zs ts).v.ok = false) : batchSum n zs ts = Ck.none_ := by
  by_cases hb : batchOk n zs ts = true
  · exfalso
    rw [batchSum_ok hb] at h
    obtain ⟨_, _, h3, h4⟩ := batchOk_iff.1 hb
    have := (ck_ok.1 (sumTo_ok h3 h4)).1
    rw [h] at this
    cases this
  · exact batchSum_not hb
set_option maxHeartbeats 8000000 in
set_option maxRecDepth 20000 in
theorem L_FnBatchSum (v : Value) (wA : World) (h : Bytes wA v) : Calls Try.prog 15 #[v] wA fun e w' => e = .returned (.bool true) ∧ Below wA.heap.size wA w' := by
  have HB0 := Lib.hid h
  obtain ⟨A, n, cap, rfl, hcap, hmax, _⟩ := h
  unfold maxLen at hmax
  by_cases hbig : n > 1048576
  · obtain ⟨L, HL, S⟩ := st_start wA; have F : True := trivial
    go_enter Try.func15, Try.ntmps15
    go_wp2_with (first | (refine wpList_box rfl S _ _ rfl ?_; intro g w L hM T; clear F S; (try rw [HL.out] at hM); clear HL; (try simp [Act.put, Act.eval, Value.cells, splice] at hM); have HL := Lib.hid hM; clear hM; have S := T; clear T; have F := factsAll HL S; (try simp only [factsOf, cellsFrom, and_true, true_and, Nat.reduceAdd] at F))  | (refine wpList_store_box rfl S _ _ _ rfl 0 _ _ _ _ (atOf HL rfl) rfl _ rfl (by kernel_rfl) rfl rfl ?_; intro w L hM T; clear F S; (try rw [HL.out] at hM); clear HL; (try simp [Act.put, Act.eval, Value.cells, splice] at hM); have HL := Lib.hid hM; clear hM; have S := T; clear T; have F := factsAll HL S; (try simp only [factsOf, cellsFrom, and_true, true_and, Nat.reduceAdd] at F)) | (refine wpList_store_box rfl S _ _ _ rfl 1 _ _ _ _ (atOf HL rfl) rfl _ rfl (by kernel_rfl) rfl rfl ?_; intro w L hM T; clear F S; (try rw [HL.out] at hM); clear HL; (try simp [Act.put, Act.eval, Value.cells, splice] at hM); have HL := Lib.hid hM; clear hM; have S := T; clear T; have F := factsAll HL S; (try simp only [factsOf, cellsFrom, and_true, true_and, Nat.reduceAdd] at F)) | (refine wpList_store_box rfl S _ _ _ rfl 2 _ _ _ _ (atOf HL rfl) rfl _ rfl (by kernel_rfl) rfl rfl ?_; intro w L hM T; clear F S; (try rw [HL.out] at hM); clear HL; (try simp [Act.put, Act.eval, Value.cells, splice] at hM); have HL := Lib.hid hM; clear hM; have S := T; clear T; have F := factsAll HL S; (try simp only [factsOf, cellsFrom, and_true, true_and, Nat.reduceAdd] at F)) | (refine wpList_store_box rfl S _ _ _ rfl 3 _ _ _ _ (atOf HL rfl) rfl _ rfl (by kernel_rfl) rfl rfl ?_; intro w L hM T; clear F S; (try rw [HL.out] at hM); clear HL; (try simp [Act.put, Act.eval, Value.cells, splice] at hM); have HL := Lib.hid hM; clear hM; have S := T; clear T; have F := factsAll HL S; (try simp only [factsOf, cellsFrom, and_true, true_and, Nat.reduceAdd] at F))  )
    go_ret
    exact ⟨rfl, S.below⟩
  obtain ⟨L, HL, S⟩ := st_start wA; have F : True := trivial
  go_enter Try.func15, Try.ntmps15
  go_upto_region 4 with (first | (go_at_call 68; refine (C_DrawBatchSum _ _ (HB0.out.below S.below)).mono ?_; rintro e w0 ⟨u, t, n', m, zs, ts, rfl, hz, hn, ht, hm, T0⟩; obtain ⟨L, hM, T⟩ := st_name (S.call T0); clear T0; clear F S; (try rw [HL.out] at hM); clear HL; (try simp [Act.put, Act.eval, Value.cells, splice] at hM); have HL := Lib.hid hM; clear hM; have S := T; clear T; have F := factsAll HL S; (try simp only [factsOf, cellsFrom, and_true, true_and, Nat.reduceAdd] at F)))
  have HS := Lib.hid (Sees.row S (atOf HL (p := 1) rfl))
  have HT := Lib.hid (Sees.row S (atOf HL (p := 0) rfl))
  obtain ⟨_, A', cap', rfl, hcap', hmax', hA'⟩ := id HS.out
  obtain ⟨_, B', capb, rfl, hcapb, hmaxb, hB'⟩ := id HT.out
  have hA0 : A' = none → cap' = 0 := by
    rcases S.rowShape (atOf HL (p := 1) rfl) with ⟨e, _⟩ | ⟨gg, cc, e, _, _⟩
    · injection e with e1 e2 e3
      exact fun _ => e3
    · injection e with e1 e2 e3
      intro h
      rw [h] at e1
      cases e1
  have hB0 : B' = none → capb = 0 := by
    rcases S.rowShape (atOf HL (p := 0) rfl) with ⟨e, _⟩ | ⟨gg, cc, e, _, _⟩
    · injection e with e1 e2 e3
      exact fun _ => e3
    · injection e with e1 e2 e3
      intro h
      rw [h] at e1
      cases e1
  unfold maxLen at hmax' hmaxb
  have HX := Lib.hid hz
  have HY := Lib.hid ht
  have HA := Lib.hid hA'
  have HB := Lib.hid hB'
  clear hz ht hA' hB'
  have HE := Lib.hid S.below
  clear F HL S HB0
  obtain ⟨L, HL, S⟩ := st_start w0
  have F : True := trivial
  have hno := @batch_none n' zs ts
  have hva := @batch_valid n' zs ts
  have hpa := @batch_parts n' (n' / 2) zs ts
  have CI := fun w h1 h2 => C_impl_BatchSum (.slice A' n' cap') (.slice B' m capb) n' zs ts w HX.out h1 h2
  have CS := fun w h1 h2 => C_spec_BatchSum (.slice A' n' cap') (.slice B' m capb) n' zs ts w HX.out h1 h2
  generalize batchSum n' zs ts = Q at CI CS hno hva hpa
  obtain ⟨⟨q0, q1⟩, ⟨q2, q3⟩⟩ := Q
  dsimp only at CI CS
  go_upto_region 5 with (first | (refine wpList_store_box rfl S _ _ _ rfl 0 _ _ _ _ (atOf HL rfl) rfl _ rfl (by kernel_rfl) rfl rfl ?_; intro w L hM T; clear F S; (try rw [HL.out] at hM); clear HL; (try simp [Act.put, Act.eval, Value.cells, splice] at hM); have HL := Lib.hid hM; clear hM; have S := T; clear T; have F := factsAll HL S; (try simp only [factsOf, cellsFrom, and_true, true_and, Nat.reduceAdd] at F)) | (refine wpList_alloc rfl S 46 _ rfl zCk ?_; intro g w L hM T; clear F S; (try rw [HL.out] at hM); clear HL; (try simp [Act.put, Act.eval, Value.cells, splice] at hM); have HL := Lib.hid hM; clear hM; have S := T; clear T; have F := factsAll HL S; (try simp only [factsOf, cellsFrom, and_true, true_and, Nat.reduceAdd] at F)) | (go_at_call 65; refine (CI _ (HS.out.at_ S) (HT.out.at_ S).ints).mono ?_; rintro e w ⟨rfl, hb⟩; replace S := S.grow hb; clear hb))
  have HL0 := HL; have F0 := F; refine wp_region_tree (S := fun w' => St w0 w' L) (.calm 0 (.calm 1 (.calm 2 (.act 3 (.calm 4 .fin) .stop)))) (by kernel_rfl) (by kernel_rfl) (by kernel_rfl) (by intro c a d v w h; cases d <;> exact h) ?_; replace S := S.drew
  repeat (first | (first | (refine tree_calm (v := ?_) ?_ rfl (by decide +kernel) rfl ?_ ?_; rotate_left; (focus (first | exact S | (refine S.sub (subL HL0 HL ?_); (repeat (first | exact List.Sublist.refl _ | apply List.Sublist.cons)); done))); (focus (intro w' hS'; (try dsimp only at hS'); go_simp; try rfl)); (try simp only [Act.put, List.setIfInBounds_toArray, List.set_cons_zero, List.set_cons_succ])) | (refine tree_any (v := ?_) ?_ rfl rfl ?_ ?_; rotate_left; (focus (first | exact S | (refine S.sub (subL HL0 HL ?_); (repeat (first | exact List.Sublist.refl _ | apply List.Sublist.cons)); done))); (focus (intro w'; go_simp; try rfl)); (try simp only [Act.put, List.setIfInBounds_toArray, List.set_cons_zero, List.set_cons_succ]))) | (refine tree_skip ?_ rfl rfl ?_; (focus (first | exact S | (refine S.sub (subL HL0 HL ?_); (repeat (first | exact List.Sublist.refl _ | apply List.Sublist.cons)); done))); (try simp only [Act.put, List.setIfInBounds_toArray, List.set_cons_zero, List.set_cons_succ])) | (refine tree_act rfl rfl ?_ tree_stop; intro K hK; go_wp2_with (first | (go_at_call 63; refine (CS _ (HS.out.at_ S) (HT.out.at_ S).ints).mono ?_; rintro e w ⟨rfl, hb⟩; replace S := S.grow hb; clear hb)); (refine hK.out _ _ ?_ ?_; (focus (first | exact fun _ => S | (intro _; refine S.sub (subL HL0 HL ?_); (repeat (first | exact List.Sublist.refl _ | apply List.Sublist.cons)); done) | (refine sink_no ?_; kernel_rfl))); clear hK K; (try simp only [Act.put, List.setIfInBounds_toArray, List.set_cons_zero, List.set_cons_succ]))))
  refine tree_fin ?_
  clear HL0 F0 CI CS
  cases hq : Sh.ok ⟨q0, q1⟩ with
  | false =>
    have h3 := hno hq
    injection h3 with h4 h5
    injection h4 with h6 h7
    injection h5 with h8 h9
    clear hno hva hpa
    subst h6 h7 h8 h9
    go_wp2_with (first | (refine wpList_box rfl S _ _ rfl ?_; intro g w L hM T; clear F S; (try rw [HL.out] at hM); clear HL; (try simp [Act.put, Act.eval, Value.cells, splice] at hM); have HL := Lib.hid hM; clear hM; have S := T; clear T; have F := factsAll HL S; (try simp only [factsOf, cellsFrom, and_true, true_and, Nat.reduceAdd] at F))  | (refine wpList_store_box rfl S _ _ _ rfl 0 _ _ _ _ (atOf HL rfl) rfl _ rfl (by kernel_rfl) rfl rfl ?_; intro w L hM T; clear F S; (try rw [HL.out] at hM); clear HL; (try simp [Act.put, Act.eval, Value.cells, splice] at hM); have HL := Lib.hid hM; clear hM; have S := T; clear T; have F := factsAll HL S; (try simp only [factsOf, cellsFrom, and_true, true_and, Nat.reduceAdd] at F)) | (refine wpList_store_box rfl S _ _ _ rfl 1 _ _ _ _ (atOf HL rfl) rfl _ rfl (by kernel_rfl) rfl rfl ?_; intro w L hM T; clear F S; (try rw [HL.out] at hM); clear HL; (try simp [Act.put, Act.eval, Value.cells, splice] at hM); have HL := Lib.hid hM; clear hM; have S := T; clear T; have F := factsAll HL S; (try simp only [factsOf, cellsFrom, and_true, true_and, Nat.reduceAdd] at F)) | (refine wpList_store_box rfl S _ _ _ rfl 2 _ _ _ _ (atOf HL rfl) rfl _ rfl (by kernel_rfl) rfl rfl ?_; intro w L hM T; clear F S; (try rw [HL.out] at hM); clear HL; (try simp [Act.put, Act.eval, Value.cells, splice] at hM); have HL := Lib.hid hM; clear hM; have S := T; clear T; have F := factsAll HL S; (try simp only [factsOf, cellsFrom, and_true, true_and, Nat.reduceAdd] at F)) | (refine wpList_store_box rfl S _ _ _ rfl 3 _ _ _ _ (atOf HL rfl) rfl _ rfl (by kernel_rfl) rfl rfl ?_; intro w L hM T; clear F S; (try rw [HL.out] at hM); clear HL; (try simp [Act.put, Act.eval, Value.cells, splice] at hM); have HL := Lib.hid hM; clear hM; have S := T; clear T; have F := factsAll HL S; (try simp only [factsOf, cellsFrom, and_true, true_and, Nat.reduceAdd] at F)) | (go_at_call 37; refine (C_impl_SharedValid _ _ _).mono ?_; rintro e w ⟨rfl, hb⟩; replace S := S.grow hb; clear hb) | (go_at_call 21; refine (C_alive _).mono ?_; rintro e w' ⟨rfl, rfl⟩))
    go_ret
    exact ⟨rfl, HE.out.trans (S.below.mono HE.out.size)⟩
  | true =>
    have hb := hva hq
    obtain ⟨_, hl, _, _⟩ := batchOk_iff.1 hb
    obtain rfl : m = n' := by rw [← hl, ← HY.out]
    have hp := hpa (Nat.div_le_self _ _) hb
    clear hno hva hpa hb hl
    obtain ⟨h, hh⟩ : ∃ h, m / 2 = h := ⟨_, rfl⟩
    rw [hh] at hp
    have e1 : (m : Int) / 2 = (h : Int) := by omega
    have e2 : (m : Int).tdiv 2 = (h : Int) := by rw [Int.tdiv_eq_ediv_of_nonneg (by omega)]; exact e1
    have hle : h ≤ m := by omega
    have hlt : m ≠ 0 → h < m := by omega
    clear hh
    go_upto_region 10 with (first | (go_at_call 37; refine (C_impl_SharedValid _ _ _).mono ?_; rintro e w ⟨rfl, hb⟩; replace S := S.grow hb; clear hb))
    clear e1 e2
    by_cases hm0 : m = 0
    · subst hm0
      obtain rfl : h = 0 := by omega
      obtain rfl : zs = [] := List.length_eq_zero_iff.1 (by have := HX.out; omega)
      obtain rfl : ts = [] := List.length_eq_zero_iff.1 HY.out
      have C0 := fun w v u h1 h2 => C_impl_BatchSum v u 0 [] [] w rfl h1 h2
      simp only [Nat.sub_self, List.take_nil, List.drop_nil] at hp
      generalize batchSum 0 [] [] = P at C0 hp
      obtain ⟨⟨p0, p1⟩, ⟨p2, p3⟩⟩ := P
      have CA := fun w => C_impl_AddChecked p0 p1 p2 p3 p0 p1 p2 p3 w
      simp only [hp] at CA
      dsimp only at C0
      clear hp HA HB hlt
      have see : ∀ (w : World) (k : Nat) (X : Option Addr) (c : Nat), c ≤ 9223372036854775807 → Sees w k (.slice X 0 c) 0 (ints []) := fun w k X c hc => ⟨by simp [ints], X, c, rfl, Nat.zero_le _, by simp [maxLen]; omega, fun h => absurd h (by omega)⟩
      cases A' with
      | none =>
        obtain rfl := hA0 rfl
        cases B' with
        | none =>
          obtain rfl := hB0 rfl
          (have HL0 := HL; have F0 := F; refine wp_region_tree (S := fun w' => St w0 w' L) (.calm 0 (.calm 1 (.calm 2 (.calm 3 (.calm 4 (.calm 5 (.calm 6 (.calm 7 (.calm 8 (.calm 9 (.calm 10 (.calm 11 (.calm 13 (.calm 14 (.calm 15 (.calm 16 (.calm 17 (.calm 18 (.calm 21 (.act 12 (.act 19 (.act 20 (.calm 22 (.calm 23 (.calm 24 .fin))) .stop) .stop) .stop)))))))))))))))))))) (by kernel_rfl) (by kernel_rfl) (by kernel_rfl) (by intro c a d v w h; cases d <;> exact h) ?_; replace S := S.drew; (repeat (first | (first | (refine tree_calm (v := ?_) ?_ rfl (by decide +kernel) rfl ?_ ?_; rotate_left; (focus (first | exact S | (refine S.sub (subL HL0 HL ?_); (repeat (first | exact List.Sublist.refl _ | apply List.Sublist.cons)); done))); (focus (intro w' hS'; (try dsimp only at hS'); go_simp; try rfl)); (try simp only [Act.put, List.setIfInBounds_toArray, List.set_cons_zero, List.set_cons_succ])) | (refine tree_any (v := ?_) ?_ rfl rfl ?_ ?_; rotate_left; (focus (first | exact S | (refine S.sub (subL HL0 HL ?_); (repeat (first | exact List.Sublist.refl _ | apply List.Sublist.cons)); done))); (focus (intro w'; go_simp; try rfl)); (try simp only [Act.put, List.setIfInBounds_toArray, List.set_cons_zero, List.set_cons_succ]))) | (refine tree_skip ?_ rfl rfl ?_; (focus (first | exact S | (refine S.sub (subL HL0 HL ?_); (repeat (first | exact List.Sublist.refl _ | apply List.Sublist.cons)); done))); (try simp only [Act.put, List.setIfInBounds_toArray, List.set_cons_zero, List.set_cons_succ])) | (refine tree_act rfl rfl ?_ tree_stop; intro K hK; go_wp2_with (first | (go_at_call 65; refine (C0 _ _ _ (by exact see _ _ _ _ (by omega)) (by exact (see _ _ _ _ (by omega)).ints)).mono ?_; rintro e w ⟨rfl, hb⟩; replace S := S.grow hb; clear hb) | (go_at_call 47; refine (CA _).mono ?_; rintro e w ⟨rfl, hb⟩; replace S := S.grow hb; clear hb)); (refine hK.out _ _ ?_ ?_; (focus (first | exact fun _ => S | (intro _; refine S.sub (subL HL0 HL ?_); (repeat (first | exact List.Sublist.refl _ | apply List.Sublist.cons)); done) | (refine sink_no ?_; kernel_rfl))); clear hK K; (try simp only [Act.put, List.setIfInBounds_toArray, List.set_cons_zero, List.set_cons_succ]))))); refine tree_fin ?_; clear C0 CA HL0 F0; go_wp2; go_ret; exact ⟨rfl, HE.out.trans (S.below.mono HE.out.size)⟩)
        | some b' =>
          (have HL0 := HL; have F0 := F; refine wp_region_tree (S := fun w' => St w0 w' L) (.calm 0 (.calm 1 (.calm 2 (.calm 3 (.calm 4 (.calm 5 (.calm 6 (.calm 7 (.calm 8 (.calm 9 (.calm 10 (.calm 11 (.calm 13 (.calm 14 (.calm 15 (.calm 16 (.calm 17 (.calm 18 (.calm 21 (.act 12 (.act 19 (.act 20 (.calm 22 (.calm 23 (.calm 24 .fin))) .stop) .stop) .stop)))))))))))))))))))) (by kernel_rfl) (by kernel_rfl) (by kernel_rfl) (by intro c a d v w h; cases d <;> exact h) ?_; replace S := S.drew; (repeat (first | (first | (refine tree_calm (v := ?_) ?_ rfl (by decide +kernel) rfl ?_ ?_; rotate_left; (focus (first | exact S | (refine S.sub (subL HL0 HL ?_); (repeat (first | exact List.Sublist.refl _ | apply List.Sublist.cons)); done))); (focus (intro w' hS'; (try dsimp only at hS'); go_simp; try rfl)); (try simp only [Act.put, List.setIfInBounds_toArray, List.set_cons_zero, List.set_cons_succ])) | (refine tree_any (v := ?_) ?_ rfl rfl ?_ ?_; rotate_left; (focus (first | exact S | (refine S.sub (subL HL0 HL ?_); (repeat (first | exact List.Sublist.refl _ | apply List.Sublist.cons)); done))); (focus (intro w'; go_simp; try rfl)); (try simp only [Act.put, List.setIfInBounds_toArray, List.set_cons_zero, List.set_cons_succ]))) | (refine tree_skip ?_ rfl rfl ?_; (focus (first | exact S | (refine S.sub (subL HL0 HL ?_); (repeat (first | exact List.Sublist.refl _ | apply List.Sublist.cons)); done))); (try simp only [Act.put, List.setIfInBounds_toArray, List.set_cons_zero, List.set_cons_succ])) | (refine tree_act rfl rfl ?_ tree_stop; intro K hK; go_wp2_with (first | (go_at_call 65; refine (C0 _ _ _ (by exact see _ _ _ _ (by omega)) (by exact (see _ _ _ _ (by omega)).ints)).mono ?_; rintro e w ⟨rfl, hb⟩; replace S := S.grow hb; clear hb) | (go_at_call 47; refine (CA _).mono ?_; rintro e w ⟨rfl, hb⟩; replace S := S.grow hb; clear hb)); (refine hK.out _ _ ?_ ?_; (focus (first | exact fun _ => S | (intro _; refine S.sub (subL HL0 HL ?_); (repeat (first | exact List.Sublist.refl _ | apply List.Sublist.cons)); done) | (refine sink_no ?_; kernel_rfl))); clear hK K; (try simp only [Act.put, List.setIfInBounds_toArray, List.set_cons_zero, List.set_cons_succ]))))); refine tree_fin ?_; clear C0 CA HL0 F0; go_wp2; go_ret; exact ⟨rfl, HE.out.trans (S.below.mono HE.out.size)⟩)
      | some b =>
        cases B' with
        | none =>
          obtain rfl := hB0 rfl
          (have HL0 := HL; have F0 := F; refine wp_region_tree (S := fun w' => St w0 w' L) (.calm 0 (.calm 1 (.calm 2 (.calm 3 (.calm 4 (.calm 5 (.calm 6 (.calm 7 (.calm 8 (.calm 9 (.calm 10 (.calm 11 (.calm 13 (.calm 14 (.calm 15 (.calm 16 (.calm 17 (.calm 18 (.calm 21 (.act 12 (.act 19 (.act 20 (.calm 22 (.calm 23 (.calm 24 .fin))) .stop) .stop) .stop)))))))))))))))))))) (by kernel_rfl) (by kernel_rfl) (by kernel_rfl) (by intro c a d v w h; cases d <;> exact h) ?_; replace S := S.drew; (repeat (first | (first | (refine tree_calm (v := ?_) ?_ rfl (by decide +kernel) rfl ?_ ?_; rotate_left; (focus (first | exact S | (refine S.sub (subL HL0 HL ?_); (repeat (first | exact List.Sublist.refl _ | apply List.Sublist.cons)); done))); (focus (intro w' hS'; (try dsimp only at hS'); go_simp; try rfl)); (try simp only [Act.put, List.setIfInBounds_toArray, List.set_cons_zero, List.set_cons_succ])) | (refine tree_any (v := ?_) ?_ rfl rfl ?_ ?_; rotate_left; (focus (first | exact S | (refine S.sub (subL HL0 HL ?_); (repeat (first | exact List.Sublist.refl _ | apply List.Sublist.cons)); done))); (focus (intro w'; go_simp; try rfl)); (try simp only [Act.put, List.setIfInBounds_toArray, List.set_cons_zero, List.set_cons_succ]))) | (refine tree_skip ?_ rfl rfl ?_; (focus (first | exact S | (refine S.sub (subL HL0 HL ?_); (repeat (first | exact List.Sublist.refl _ | apply List.Sublist.cons)); done))); (try simp only [Act.put, List.setIfInBounds_toArray, List.set_cons_zero, List.set_cons_succ])) | (refine tree_act rfl rfl ?_ tree_stop; intro K hK; go_wp2_with (first | (go_at_call 65; refine (C0 _ _ _ (by exact see _ _ _ _ (by omega)) (by exact (see _ _ _ _ (by omega)).ints)).mono ?_; rintro e w ⟨rfl, hb⟩; replace S := S.grow hb; clear hb) | (go_at_call 47; refine (CA _).mono ?_; rintro e w ⟨rfl, hb⟩; replace S := S.grow hb; clear hb)); (refine hK.out _ _ ?_ ?_; (focus (first | exact fun _ => S | (intro _; refine S.sub (subL HL0 HL ?_); (repeat (first | exact List.Sublist.refl _ | apply List.Sublist.cons)); done) | (refine sink_no ?_; kernel_rfl))); clear hK K; (try simp only [Act.put, List.setIfInBounds_toArray, List.set_cons_zero, List.set_cons_succ]))))); refine tree_fin ?_; clear C0 CA HL0 F0; go_wp2; go_ret; exact ⟨rfl, HE.out.trans (S.below.mono HE.out.size)⟩)
        | some b' =>
          (have HL0 := HL; have F0 := F; refine wp_region_tree (S := fun w' => St w0 w' L) (.calm 0 (.calm 1 (.calm 2 (.calm 3 (.calm 4 (.calm 5 (.calm 6 (.calm 7 (.calm 8 (.calm 9 (.calm 10 (.calm 11 (.calm 13 (.calm 14 (.calm 15 (.calm 16 (.calm 17 (.calm 18 (.calm 21 (.act 12 (.act 19 (.act 20 (.calm 22 (.calm 23 (.calm 24 .fin))) .stop) .stop) .stop)))))))))))))))))))) (by kernel_rfl) (by kernel_rfl) (by kernel_rfl) (by intro c a d v w h; cases d <;> exact h) ?_; replace S := S.drew; (repeat (first | (first | (refine tree_calm (v := ?_) ?_ rfl (by decide +kernel) rfl ?_ ?_; rotate_left; (focus (first | exact S | (refine S.sub (subL HL0 HL ?_); (repeat (first | exact List.Sublist.refl _ | apply List.Sublist.cons)); done))); (focus (intro w' hS'; (try dsimp only at hS'); go_simp; try rfl)); (try simp only [Act.put, List.setIfInBounds_toArray, List.set_cons_zero, List.set_cons_succ])) | (refine tree_any (v := ?_) ?_ rfl rfl ?_ ?_; rotate_left; (focus (first | exact S | (refine S.sub (subL HL0 HL ?_); (repeat (first | exact List.Sublist.refl _ | apply List.Sublist.cons)); done))); (focus (intro w'; go_simp; try rfl)); (try simp only [Act.put, List.setIfInBounds_toArray, List.set_cons_zero, List.set_cons_succ]))) | (refine tree_skip ?_ rfl rfl ?_; (focus (first | exact S | (refine S.sub (subL HL0 HL ?_); (repeat (first | exact List.Sublist.refl _ | apply List.Sublist.cons)); done))); (try simp only [Act.put, List.setIfInBounds_toArray, List.set_cons_zero, List.set_cons_succ])) | (refine tree_act rfl rfl ?_ tree_stop; intro K hK; go_wp2_with (first | (go_at_call 65; refine (C0 _ _ _ (by exact see _ _ _ _ (by omega)) (by exact (see _ _ _ _ (by omega)).ints)).mono ?_; rintro e w ⟨rfl, hb⟩; replace S := S.grow hb; clear hb) | (go_at_call 47; refine (CA _).mono ?_; rintro e w ⟨rfl, hb⟩; replace S := S.grow hb; clear hb)); (refine hK.out _ _ ?_ ?_; (focus (first | exact fun _ => S | (intro _; refine S.sub (subL HL0 HL ?_); (repeat (first | exact List.Sublist.refl _ | apply List.Sublist.cons)); done) | (refine sink_no ?_; kernel_rfl))); clear hK K; (try simp only [Act.put, List.setIfInBounds_toArray, List.set_cons_zero, List.set_cons_succ]))))); refine tree_fin ?_; clear C0 CA HL0 F0; go_wp2; go_ret; exact ⟨rfl, HE.out.trans (S.below.mono HE.out.size)⟩)
    obtain ⟨b, off, rfl, hb, _⟩ := HA.out (by omega)
    obtain ⟨b', off', rfl, hb', _⟩ := HB.out (by omega)
    have hc1 : h ≤ cap' := by omega
    have hc2 : h ≤ capb := by omega
    replace hlt := hlt hm0
    have hc3 : ¬ cap' = h := by omega
    have hc4 : ¬ capb = h := by omega
    have HF := Lib.hid (show Sees w0 4 (.slice (some ⟨b, off, none⟩) h cap') h (ints (zs.take (h * 4))) by rw [ints_take]; exact HS.out.front h hle)
    have HFt := Lib.hid (show Sees w0 1 (.slice (some ⟨b', off', none⟩) h capb) h (ints (ts.take h)) by
      rw [ints_take]
      have := HT.out.front h hle
      rwa [Nat.mul_one] at this)
    have HR := Lib.hid (show Sees w0 4 (.slice (some ⟨b, off + h * 4, none⟩) (m - h) (cap' - h)) (m - h) (ints (zs.drop (h * 4))) by rw [ints_drop]; exact HS.out.rest h (m - h) (by omega) _ _ rfl ⟨by omega, by omega⟩)
    have HRt := Lib.hid (show Sees w0 1 (.slice (some ⟨b', off' + h, none⟩) (m - h) (capb - h)) (m - h) (ints (ts.drop h)) by
      rw [ints_drop]
      have := HT.out.rest h (m - h) (by omega) (off' + h) (capb - h) (by omega) ⟨by omega, by omega⟩
      rwa [Nat.mul_one] at this)
    have CF := fun w v u h1 h2 => C_impl_BatchSum v u h (zs.take (h * 4)) (ts.take h) w (by rw [List.length_take, HX.out]; omega) h1 h2
    have CR := fun w v u h1 h2 => C_impl_BatchSum v u (m - h) (zs.drop (h * 4)) (ts.drop h) w (by rw [List.length_drop, HX.out]; omega) h1 h2
    generalize batchSum h (zs.take (h * 4)) (ts.take h) = P at CF hp
    generalize batchSum (m - h) (zs.drop (h * 4)) (ts.drop h) = R at CR hp
    obtain ⟨⟨p0, p1⟩, ⟨p2, p3⟩⟩ := P
    obtain ⟨⟨r0, r1⟩, ⟨r2, r3⟩⟩ := R
    have CA := fun w => C_impl_AddChecked p0 p1 p2 p3 r0 r1 r2 r3 w
    simp only [hp] at CA
    dsimp only at CF CR
    clear hp hm0
    have HL0 := HL; have F0 := F; refine wp_region_tree (S := fun w' => St w0 w' L) (.calm 0 (.calm 1 (.calm 2 (.calm 3 (.calm 4 (.calm 5 (.calm 6 (.calm 7 (.calm 8 (.calm 9 (.calm 10 (.calm 11 (.calm 13 (.calm 14 (.calm 15 (.calm 16 (.calm 17 (.calm 18 (.calm 21 (.act 12 (.act 19 (.act 20 (.calm 22 (.calm 23 (.calm 24 .fin))) .stop) .stop) .stop)))))))))))))))))))) (by kernel_rfl) (by kernel_rfl) (by kernel_rfl) (by intro c a d v w h; cases d <;> exact h) ?_; replace S := S.drew
    repeat (first | (first | (refine tree_calm (v := ?_) ?_ rfl (by decide +kernel) rfl ?_ ?_; rotate_left; (focus (first | exact S | (refine S.sub (subL HL0 HL ?_); (repeat (first | exact List.Sublist.refl _ | apply List.Sublist.cons)); done))); (focus (intro w' hS'; (try dsimp only at hS'); go_simp; try rfl)); (try simp only [Act.put, List.setIfInBounds_toArray, List.set_cons_zero, List.set_cons_succ])) | (refine tree_any (v := ?_) ?_ rfl rfl ?_ ?_; rotate_left; (focus (first | exact S | (refine S.sub (subL HL0 HL ?_); (repeat (first | exact List.Sublist.refl _ | apply List.Sublist.cons)); done))); (focus (intro w'; go_simp; try rfl)); (try simp only [Act.put, List.setIfInBounds_toArray, List.set_cons_zero, List.set_cons_succ]))) | (refine tree_skip ?_ rfl rfl ?_; (focus (first | exact S | (refine S.sub (subL HL0 HL ?_); (repeat (first | exact List.Sublist.refl _ | apply List.Sublist.cons)); done))); (try simp only [Act.put, List.setIfInBounds_toArray, List.set_cons_zero, List.set_cons_succ])) | (refine tree_act rfl rfl ?_ tree_stop; intro K hK; go_wp2_with (first | (go_at_call 65; refine (CF _ _ _ (by exact HF.out.at_ S) (by exact (HFt.out.at_ S).ints)).mono ?_; rintro e w ⟨rfl, hb⟩; replace S := S.grow hb; clear hb) | (go_at_call 65; refine (CR _ _ _ (by exact HR.out.at_ S) (by exact (HRt.out.at_ S).ints)).mono ?_; rintro e w ⟨rfl, hb⟩; replace S := S.grow hb; clear hb) | (go_at_call 47; refine (CA _).mono ?_; rintro e w ⟨rfl, hb⟩; replace S := S.grow hb; clear hb)); (refine hK.out _ _ ?_ ?_; (focus (first | exact fun _ => S | (intro _; refine S.sub (subL HL0 HL ?_); (repeat (first | exact List.Sublist.refl _ | apply List.Sublist.cons)); done) | (refine sink_no ?_; kernel_rfl))); clear hK K; (try simp only [Act.put, List.setIfInBounds_toArray, List.set_cons_zero, List.set_cons_succ]))))
    refine tree_fin ?_
    clear CF CR CA HL0 F0
    go_wp2
    go_ret
    exact ⟨rfl, HE.out.trans (S.below.mono HE.out.size)⟩

set_option maxRecDepth 100000 in
theorem FnBatchSum_lifted (os : Os) (started : os.Started) (H : Type) (enc : TypeId × Value → H) :
    ReturnsInHanded {} Try.checked os 15 .any (Rows.fnBatchSumSpec.pre6 enc Try.prog Try.f15 Rows.fnBatchSumRow.domain false) (Rows.fnBatchSumSpec.post enc Try.prog Try.f15 false true false false) := by
  refine returnsInHanded_of_change (C := Try.checked) Try.ownKnob_ started (by kernel_rfl) Try.func15
    (ChangeSpec.witness6 (enc := enc) (C := Try.checked) false ⟨#[], #[.slice none 0 0], []⟩ 8 (by kernel_rfl) (by kernel_rfl) (by kernel_rfl) (by kernel_rfl)) ?_
  intro W base args ds gs before hval0 hW _ _
  have hval : ∀ (j : Nat) t v, Try.f15.params[j]? = some t → args[j]? = some v → Value.okWide Try.prog W .any base t v := hval0
  have hW' := hW
  obtain ⟨p, q, hA0, hV, rfl, _, _⟩ := hW
  have hA : DataW.TrodAll enc Try.prog W 0 (fun _ => true) true Try.f15.params.toList args.toList ds p := hA0
  rw [Try.params15] at hA hval
  obtain ⟨v0, vs0, d0, ds0, p0, q0, hargs, rfl, rfl, h0, r0⟩ := trodAll_cons hA
  obtain ⟨rfl, rfl, rfl⟩ := trodAll_nil r0
  obtain rfl : args = #[v0] := by cases args; simp_all
  obtain ⟨rfl, rfl⟩ := trodVars_none hV
  clear hA0 hval0
  have s0 := open_bytes (e := 5) (by kernel_rfl) (hval 0 _ v0 rfl rfl) h0
  refine (L_FnBatchSum _ W s0).mono fun e W' ⟨he, hb⟩ => ⟨_, he, ?_⟩
  exact law_post 4 Try.underlying4 Try.laidOut_ (by kernel_rfl) rfl rfl hW' ⟨rfl, rfl, rfl⟩ hb

theorem FnBatchSum_holds : Rows.FnBatchSumSaid :=
  OpenClaim.holds_of_wide 15 Try.f15 rfl rfl rfl rfl rfl rfl rfl ⟨rfl, rfl, rfl, rfl, rfl⟩ rfl rfl rfl rfl rfl (by kernel_rfl) Try.func15 (closed_of (by kernel_rfl))
    (of_decide_eq_true (by kernel_rfl)) (by unfold Func.isWrapper; first | (rw [if_pos (by decide +kernel)]; kernel_rfl) | (rw [if_neg (by decide +kernel)]; exact ⟨rfl, rfl⟩))
    (fun os started H enc _ => FnBatchSum_lifted os started H enc)

end Go.Proofs.Ytdgeiooacghcoaa
