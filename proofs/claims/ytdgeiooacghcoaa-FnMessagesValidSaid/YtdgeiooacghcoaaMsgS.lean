/-
  The contract of the reference's MessagesValid.
-/
import Derived.Test.YtdgeiooacghcoaaMsg
namespace Go.Proofs.Ytdgeiooacghcoaa
set_option linter.unusedSimpArgs false
set_option linter.unusedVariables false
set_option linter.unusedSectionVars false
open Go Go.RowKit
set_option maxHeartbeats 8000000
set_option maxRecDepth 20000
theorem C_rnd (r : Int) (w0 : World) : Calls Try.prog 80 #[.int .i64 r, .int .i64 0, .int .i64 1000] w0 fun e w' => e = .returned (.bool (rnd r)) ∧ w0 = w' := C_spec_l1In r 0 1000 w0
theorem C_spec_MessagesValid (v : Value) (n : Nat) (zs : List Int) (w0 : World) (h : Msgs w0 v n zs) :
    Calls Try.prog 24 #[v] w0 fun e w' => e = .returned (.bool (msgsOk n zs)) ∧ Below w0.heap.size w0 w' := by
  obtain ⟨hx, hl, A, cap, rfl, hcap, hmax, hA⟩ := h
  have HX := Lib.hid hx
  have HA := Lib.hid hA
  clear hl hA hx
  unfold maxLen at hmax
  obtain ⟨L, HL, S⟩ := st_start w0; have F : True := trivial
  go_enter Try.func24, Try.ntmps24
  go_wp2
  go_loopw [3] (fun i wr => ∃ (k : Nat), k ≤ n ∧ i = .int .i64 k ∧ Hid (∀ j, j < k → mOk zs j = true) ∧ St w0 wr []) (fun i _ => n - (intOf i).toNat)
  case atStart => exact ⟨0, Nat.zero_le _, rfl, Lib.hid (fun j hj => absurd hj (by omega)), by rw [HL.out] at S; exact S⟩
  case round =>
    clear F HL S
    obtain ⟨k, hk, rfl, hall, S⟩ := hrel
    obtain ⟨L, HL⟩ : ∃ L : List Ent, Hid (L = []) := ⟨_, Lib.hid rfl⟩
    rw [← HL.out] at S
    have F : True := trivial
    by_cases hlt : k < n
    · obtain ⟨b, off, rfl, hb, hc⟩ := HA.out (by omega)
      have hcc : ∀ j i u, (ints zs)[j + i]? = some u → w0.cell? ⟨b, off + j + i, none⟩ = some u := fun j i u h => by rw [Nat.add_assoc]; exact hc _ _ h
      have q : k * 3 + 3 ≤ zs.length := by rw [HX.out]; omega
      have c0 := (S.below.cell (p := ⟨b, off + k * 3, none⟩) hb).trans (hc (k * 3) _ (ints_getD zs (k * 3) (by omega)))
      have c1 := (S.below.cell (p := ⟨b, off + k * 3 + 1, none⟩) hb).trans (hcc (k * 3) 1 _ (ints_getD zs (k * 3 + 1) (by omega)))
      have c2 := (S.below.cell (p := ⟨b, off + k * 3 + 2, none⟩) hb).trans (hcc (k * 3) 2 _ (ints_getD zs (k * 3 + 2) (by omega)))
      have hm : mOk zs k = (rnd (mR zs k) && rv (mV zs k) && decide (mF zs k = 1 + (k : Int) % 2) && !decide (mR zs k < lat zs k) && !(decide (k % 2 = 1) && decide (mR zs k ≠ lat zs k))) := rfl
      have hl0 : k = 0 → lat zs k = 0 := fun h => by rw [h]; rfl
      have hl1 : ∀ j, k = j + 1 → w0.cell? ⟨b, off + j * 3, none⟩ = some (.int .i64 (lat zs k)) := fun j h => by
        rw [hc (j * 3) _ (ints_getD zs (j * 3) (by omega)), h]; rfl
      clear hc hcc q
      rw [show zs.getD (k * 3) 0 = mR zs k from rfl] at c0
      rw [show zs.getD (k * 3 + 1) 0 = mF zs k from rfl] at c1
      rw [show zs.getD (k * 3 + 2) 0 = mV zs k from rfl] at c2
      generalize mR zs k = r at c0 hm
      generalize mF zs k = f at c1 hm
      generalize mV zs k = x at c2 hm
      generalize lat zs k = l at hm hl0 hl1
      have HM := Lib.hid hm
      have H0 := Lib.hid hl0
      have H1 := Lib.hid hl1
      clear hm hl0 hl1
      go_upto_region 5 with (first | (refine wpList_alloc rfl S 99 _ rfl zMsg ?_; intro g w L hM T; clear F S; (try rw [HL.out] at hM); clear HL; (try simp [Act.put, Act.eval, Value.cells, splice] at hM); have HL := Lib.hid hM; clear hM; have S := T; clear T; have F := factsAll HL S; (try simp only [factsOf, cellsFrom, and_true, true_and, Nat.reduceAdd] at F)) | (refine wpList_store_box rfl S _ _ _ rfl 0 _ _ _ _ (atOf HL rfl) rfl _ rfl (by kernel_rfl) rfl rfl ?_; intro w L hM T; clear F S; (try rw [HL.out] at hM); clear HL; (try simp [Act.put, Act.eval, Value.cells, splice] at hM); have HL := Lib.hid hM; clear hM; have S := T; clear T; have F := factsAll HL S; (try simp only [factsOf, cellsFrom, and_true, true_and, Nat.reduceAdd] at F)))
      clear c0 c1 c2
      have et : (k : Int).tmod 2 = (k : Int) % 2 := Int.tmod_eq_emod_of_nonneg (by omega)
      have ew : IntKind.i64.wrap (1 + (k : Int) % 2) = 1 + (k : Int) % 2 := by rw [IntKind.wrap_i64]; omega
      cases a1 : rnd r with
      | false =>
        have hbad : mOk zs k = false := by rw [HM.out]; simp [a1]
        have EE := Lib.hid (msgsOk_bad hlt hbad)
        clear hbad
        have HL0 := HL; have F0 := F; refine wp_region_tree (S := fun w' => St w0 w' L) (.calm 0 (.calm 1 (.act 2 (.calm 3 (.calm 4 (.calm 5 (.calm 6 (.act 7 (.calm 8 (.calm 9 (.calm 10 (.calm 11 (.calm 12 (.calm 13 (.calm 14 (.calm 15 (.calm 16 (.calm 17 (.calm 18 (.calm 19 (.calm 20 (.calm 21 (.calm 22 (.calm 23 (.calm 24 (.calm 25 (.calm 26 (.calm 27 (.calm 28 (.calm 29 (.calm 30 (.calm 31 (.calm 32 (.calm 33 (.calm 34 (.calm 35 (.calm 36 (.calm 37 (.calm 38 (.calm 39 (.calm 40 (.calm 41 (.calm 42 (.calm 43 (.calm 44 (.calm 45 (.calm 46 (.calm 47 (.calm 48 .fin))))))))))))))))))))))))))))))))))))))))) .stop))))) .stop))) (by kernel_rfl) (by kernel_rfl) (by kernel_rfl) (by intro c a d v w h; cases d <;> exact h) ?_; replace S := S.drew
        repeat (first | (first | (refine tree_calm (v := ?_) ?_ rfl (by decide +kernel) rfl ?_ ?_; rotate_left; (focus (first | exact S | (refine S.sub (subL HL0 HL ?_); (repeat (first | exact List.Sublist.refl _ | apply List.Sublist.cons)); done))); (focus (intro w' hS'; (try dsimp only at hS'); go_simp; try rfl)); (try simp only [Act.put, List.setIfInBounds_toArray, List.set_cons_zero, List.set_cons_succ])) | (refine tree_any (v := ?_) ?_ rfl rfl ?_ ?_; rotate_left; (focus (first | exact S | (refine S.sub (subL HL0 HL ?_); (repeat (first | exact List.Sublist.refl _ | apply List.Sublist.cons)); done))); (focus (intro w'; go_simp; try rfl)); (try simp only [Act.put, List.setIfInBounds_toArray, List.set_cons_zero, List.set_cons_succ]))) | (refine tree_skip ?_ rfl rfl ?_; (focus (first | exact S | (refine S.sub (subL HL0 HL ?_); (repeat (first | exact List.Sublist.refl _ | apply List.Sublist.cons)); done))); (try simp only [Act.put, List.setIfInBounds_toArray, List.set_cons_zero, List.set_cons_succ])) | (refine tree_actSkip rfl rfl ?_ ?_ tree_stop; (focus (first | exact S | (refine S.sub (subL HL0 HL ?_); (repeat (first | exact List.Sublist.refl _ | apply List.Sublist.cons)); done))); (try simp only [Act.put, List.setIfInBounds_toArray, List.set_cons_zero, List.set_cons_succ])) | (refine tree_act rfl rfl ?_ tree_stop; intro K hK; go_wp2_with (first | (go_at_call 80; refine (C_rnd _ _).mono ?_; rintro e w' ⟨rfl, rfl⟩) | (go_at_call 81; refine (C_spec_RingValid _ _).mono ?_; rintro e w' ⟨rfl, rfl⟩)); (refine hK.out _ _ ?_ ?_; (focus (first | exact fun _ => S | (intro _; refine S.sub (subL HL0 HL ?_); (repeat (first | exact List.Sublist.refl _ | apply List.Sublist.cons)); done) | (refine sink_no ?_; kernel_rfl))); clear hK K; (try simp only [Act.put, List.setIfInBounds_toArray, List.set_cons_zero, List.set_cons_succ]))))
        refine tree_fin ?_
        go_wp2
        go_ret
        exact ⟨by rw [EE.out]; rfl, S.below⟩
      | true =>
        cases a4 : rv x with
        | false =>
          have hbad : mOk zs k = false := by rw [HM.out]; simp [a4]
          have EE := Lib.hid (msgsOk_bad hlt hbad)
          clear hbad
          have HL0 := HL; have F0 := F; refine wp_region_tree (S := fun w' => St w0 w' L) (.calm 0 (.calm 1 (.act 2 (.calm 3 (.calm 4 (.calm 5 (.calm 6 (.act 7 (.calm 8 (.calm 9 (.calm 10 (.calm 11 (.calm 12 (.calm 13 (.calm 14 (.calm 15 (.calm 16 (.calm 17 (.calm 18 (.calm 19 (.calm 20 (.calm 21 (.calm 22 (.calm 23 (.calm 24 (.calm 25 (.calm 26 (.calm 27 (.calm 28 (.calm 29 (.calm 30 (.calm 31 (.calm 32 (.calm 33 (.calm 34 (.calm 35 (.calm 36 (.calm 37 (.calm 38 (.calm 39 (.calm 40 (.calm 41 (.calm 42 (.calm 43 (.calm 44 (.calm 45 (.calm 46 (.calm 47 (.calm 48 .fin))))))))))))))))))))))))))))))))))))))))) .stop))))) .stop))) (by kernel_rfl) (by kernel_rfl) (by kernel_rfl) (by intro c a d v w h; cases d <;> exact h) ?_; replace S := S.drew
          repeat (first | (first | (refine tree_calm (v := ?_) ?_ rfl (by decide +kernel) rfl ?_ ?_; rotate_left; (focus (first | exact S | (refine S.sub (subL HL0 HL ?_); (repeat (first | exact List.Sublist.refl _ | apply List.Sublist.cons)); done))); (focus (intro w' hS'; (try dsimp only at hS'); go_simp; try rfl)); (try simp only [Act.put, List.setIfInBounds_toArray, List.set_cons_zero, List.set_cons_succ])) | (refine tree_any (v := ?_) ?_ rfl rfl ?_ ?_; rotate_left; (focus (first | exact S | (refine S.sub (subL HL0 HL ?_); (repeat (first | exact List.Sublist.refl _ | apply List.Sublist.cons)); done))); (focus (intro w'; go_simp; try rfl)); (try simp only [Act.put, List.setIfInBounds_toArray, List.set_cons_zero, List.set_cons_succ]))) | (refine tree_skip ?_ rfl rfl ?_; (focus (first | exact S | (refine S.sub (subL HL0 HL ?_); (repeat (first | exact List.Sublist.refl _ | apply List.Sublist.cons)); done))); (try simp only [Act.put, List.setIfInBounds_toArray, List.set_cons_zero, List.set_cons_succ])) | (refine tree_actSkip rfl rfl ?_ ?_ tree_stop; (focus (first | exact S | (refine S.sub (subL HL0 HL ?_); (repeat (first | exact List.Sublist.refl _ | apply List.Sublist.cons)); done))); (try simp only [Act.put, List.setIfInBounds_toArray, List.set_cons_zero, List.set_cons_succ])) | (refine tree_act rfl rfl ?_ tree_stop; intro K hK; go_wp2_with (first | (go_at_call 80; refine (C_rnd _ _).mono ?_; rintro e w' ⟨rfl, rfl⟩) | (go_at_call 81; refine (C_spec_RingValid _ _).mono ?_; rintro e w' ⟨rfl, rfl⟩)); (refine hK.out _ _ ?_ ?_; (focus (first | exact fun _ => S | (intro _; refine S.sub (subL HL0 HL ?_); (repeat (first | exact List.Sublist.refl _ | apply List.Sublist.cons)); done) | (refine sink_no ?_; kernel_rfl))); clear hK K; (try simp only [Act.put, List.setIfInBounds_toArray, List.set_cons_zero, List.set_cons_succ]))))
          refine tree_fin ?_
          go_wp2
          go_ret
          exact ⟨by rw [EE.out]; rfl, S.below⟩
        | true =>
          by_cases a3 : f = 1 + (k : Int) % 2
          rotate_left
          · have a3' : (f != 1 + (k : Int) % 2) = true := by rw [bne_iff_ne]; exact a3
            have hbad : mOk zs k = false := by rw [HM.out]; simp [a3]
            have EE := Lib.hid (msgsOk_bad hlt hbad)
            clear hbad
            have HL0 := HL; have F0 := F; refine wp_region_tree (S := fun w' => St w0 w' L) (.calm 0 (.calm 1 (.act 2 (.calm 3 (.calm 4 (.calm 5 (.calm 6 (.act 7 (.calm 8 (.calm 9 (.calm 10 (.calm 11 (.calm 12 (.calm 13 (.calm 14 (.calm 15 (.calm 16 (.calm 17 (.calm 18 (.calm 19 (.calm 20 (.calm 21 (.calm 22 (.calm 23 (.calm 24 (.calm 25 (.calm 26 (.calm 27 (.calm 28 (.calm 29 (.calm 30 (.calm 31 (.calm 32 (.calm 33 (.calm 34 (.calm 35 (.calm 36 (.calm 37 (.calm 38 (.calm 39 (.calm 40 (.calm 41 (.calm 42 (.calm 43 (.calm 44 (.calm 45 (.calm 46 (.calm 47 (.calm 48 .fin))))))))))))))))))))))))))))))))))))))))) .stop))))) .stop))) (by kernel_rfl) (by kernel_rfl) (by kernel_rfl) (by intro c a d v w h; cases d <;> exact h) ?_; replace S := S.drew
            repeat (first | (first | (refine tree_calm (v := ?_) ?_ rfl (by decide +kernel) rfl ?_ ?_; rotate_left; (focus (first | exact S | (refine S.sub (subL HL0 HL ?_); (repeat (first | exact List.Sublist.refl _ | apply List.Sublist.cons)); done))); (focus (intro w' hS'; (try dsimp only at hS'); go_simp; try rfl)); (try simp only [Act.put, List.setIfInBounds_toArray, List.set_cons_zero, List.set_cons_succ])) | (refine tree_any (v := ?_) ?_ rfl rfl ?_ ?_; rotate_left; (focus (first | exact S | (refine S.sub (subL HL0 HL ?_); (repeat (first | exact List.Sublist.refl _ | apply List.Sublist.cons)); done))); (focus (intro w'; go_simp; try rfl)); (try simp only [Act.put, List.setIfInBounds_toArray, List.set_cons_zero, List.set_cons_succ]))) | (refine tree_skip ?_ rfl rfl ?_; (focus (first | exact S | (refine S.sub (subL HL0 HL ?_); (repeat (first | exact List.Sublist.refl _ | apply List.Sublist.cons)); done))); (try simp only [Act.put, List.setIfInBounds_toArray, List.set_cons_zero, List.set_cons_succ])) | (refine tree_actSkip rfl rfl ?_ ?_ tree_stop; (focus (first | exact S | (refine S.sub (subL HL0 HL ?_); (repeat (first | exact List.Sublist.refl _ | apply List.Sublist.cons)); done))); (try simp only [Act.put, List.setIfInBounds_toArray, List.set_cons_zero, List.set_cons_succ])) | (refine tree_act rfl rfl ?_ tree_stop; intro K hK; go_wp2_with (first | (go_at_call 80; refine (C_rnd _ _).mono ?_; rintro e w' ⟨rfl, rfl⟩) | (go_at_call 81; refine (C_spec_RingValid _ _).mono ?_; rintro e w' ⟨rfl, rfl⟩)); (refine hK.out _ _ ?_ ?_; (focus (first | exact fun _ => S | (intro _; refine S.sub (subL HL0 HL ?_); (repeat (first | exact List.Sublist.refl _ | apply List.Sublist.cons)); done) | (refine sink_no ?_; kernel_rfl))); clear hK K; (try simp only [Act.put, List.setIfInBounds_toArray, List.set_cons_zero, List.set_cons_succ]))))
            refine tree_fin ?_
            go_wp2
            go_ret
            exact ⟨by rw [EE.out]; rfl, S.below⟩
          have a3' : (f != 1 + (k : Int) % 2) = false := by rw [a3]; exact bne_self_eq_false _
          have HA3 := Lib.hid a3
          rcases Nat.eq_zero_or_pos k with hz | hp
          · have l0 := H0.out hz
            have r0 : 0 ≤ r := by simp [rnd] at a1; omega
            have k1 : decide (0 < k) = false := decide_eq_false (by omega)
            have hok : mOk zs k = true := by rw [HM.out]; subst hz; subst l0; simp [a1, a3, a4]; omega
            have HOK := Lib.hid hok
            clear hok a3 l0 r0 hz
            have HL0 := HL; have F0 := F; refine wp_region_tree (S := fun w' => St w0 w' L) (.calm 0 (.calm 1 (.act 2 (.calm 3 (.calm 4 (.calm 5 (.calm 6 (.act 7 (.calm 8 (.calm 9 (.calm 10 (.calm 11 (.calm 12 (.calm 13 (.calm 14 (.calm 15 (.calm 16 (.calm 17 (.calm 18 (.calm 19 (.calm 20 (.calm 21 (.calm 22 (.calm 23 (.calm 24 (.calm 25 (.calm 26 (.calm 27 (.calm 28 (.calm 29 (.calm 30 (.calm 31 (.calm 32 (.calm 33 (.calm 34 (.calm 35 (.calm 36 (.calm 37 (.calm 38 (.calm 39 (.calm 40 (.calm 41 (.calm 42 (.calm 43 (.calm 44 (.calm 45 (.calm 46 (.calm 47 (.calm 48 .fin))))))))))))))))))))))))))))))))))))))))) .stop))))) .stop))) (by kernel_rfl) (by kernel_rfl) (by kernel_rfl) (by intro c a d v w h; cases d <;> exact h) ?_; replace S := S.drew
            repeat (first | (first | (refine tree_calm (v := ?_) ?_ rfl (by decide +kernel) rfl ?_ ?_; rotate_left; (focus (first | exact S | (refine S.sub (subL HL0 HL ?_); (repeat (first | exact List.Sublist.refl _ | apply List.Sublist.cons)); done))); (focus (intro w' hS'; (try dsimp only at hS'); go_simp; try rfl)); (try simp only [Act.put, List.setIfInBounds_toArray, List.set_cons_zero, List.set_cons_succ])) | (refine tree_any (v := ?_) ?_ rfl rfl ?_ ?_; rotate_left; (focus (first | exact S | (refine S.sub (subL HL0 HL ?_); (repeat (first | exact List.Sublist.refl _ | apply List.Sublist.cons)); done))); (focus (intro w'; go_simp; try rfl)); (try simp only [Act.put, List.setIfInBounds_toArray, List.set_cons_zero, List.set_cons_succ]))) | (refine tree_skip ?_ rfl rfl ?_; (focus (first | exact S | (refine S.sub (subL HL0 HL ?_); (repeat (first | exact List.Sublist.refl _ | apply List.Sublist.cons)); done))); (try simp only [Act.put, List.setIfInBounds_toArray, List.set_cons_zero, List.set_cons_succ])) | (refine tree_actSkip rfl rfl ?_ ?_ tree_stop; (focus (first | exact S | (refine S.sub (subL HL0 HL ?_); (repeat (first | exact List.Sublist.refl _ | apply List.Sublist.cons)); done))); (try simp only [Act.put, List.setIfInBounds_toArray, List.set_cons_zero, List.set_cons_succ])) | (refine tree_act rfl rfl ?_ tree_stop; intro K hK; go_wp2_with (first | (go_at_call 80; refine (C_rnd _ _).mono ?_; rintro e w' ⟨rfl, rfl⟩) | (go_at_call 81; refine (C_spec_RingValid _ _).mono ?_; rintro e w' ⟨rfl, rfl⟩)); (refine hK.out _ _ ?_ ?_; (focus (first | exact fun _ => S | (intro _; refine S.sub (subL HL0 HL ?_); (repeat (first | exact List.Sublist.refl _ | apply List.Sublist.cons)); done) | (refine sink_no ?_; kernel_rfl))); clear hK K; (try simp only [Act.put, List.setIfInBounds_toArray, List.set_cons_zero, List.set_cons_succ]))))
            refine tree_fin ?_
            go_wp2
            go_roundw
            case rel =>
              refine ⟨k + 1, by omega, by go_num, Lib.hid (fun j hj => ?_), S.sub (List.nil_sublist _)⟩
              rcases Nat.lt_or_ge j k with h | h
              · exact hall.out j h
              · obtain rfl : j = k := by omega
                exact HOK.out
            case measure => simp [intOf]; omega
          · obtain ⟨j, hj⟩ : ∃ j, k = j + 1 := ⟨k - 1, by omega⟩
            have cj := H1.out j hj
            have cp := fun w' (S' : St w0 w' L) => (S'.below.cell (p := ⟨b, off + j * 3, none⟩) hb).trans cj
            have ej : IntKind.i64.wrap ((k : Int) - 1) = (j : Int) := by rw [IntKind.wrap_i64]; omega
            have hjn : (j : Int) < n := by omega
            have hj0 : 0 ≤ (j : Int) := by omega
            have kp : 0 < (k : Int) := by omega
            clear cj hj
            by_cases a2 : r < l
            · have hbad : mOk zs k = false := by rw [HM.out]; simp [a2]
              have EE := Lib.hid (msgsOk_bad hlt hbad)
              clear hbad
              have HL0 := HL; have F0 := F; refine wp_region_tree (S := fun w' => St w0 w' L) (.calm 0 (.calm 1 (.act 2 (.calm 3 (.calm 4 (.calm 5 (.calm 6 (.act 7 (.calm 8 (.calm 9 (.calm 10 (.calm 11 (.calm 12 (.calm 13 (.calm 14 (.calm 15 (.calm 16 (.calm 17 (.calm 18 (.calm 19 (.calm 20 (.calm 21 (.calm 22 (.calm 23 (.calm 24 (.calm 25 (.calm 26 (.calm 27 (.calm 28 (.calm 29 (.calm 30 (.calm 31 (.calm 32 (.calm 33 (.calm 34 (.calm 35 (.calm 36 (.calm 37 (.calm 38 (.calm 39 (.calm 40 (.calm 41 (.calm 42 (.calm 43 (.calm 44 (.calm 45 (.calm 46 (.calm 47 (.calm 48 .fin))))))))))))))))))))))))))))))))))))))))) .stop))))) .stop))) (by kernel_rfl) (by kernel_rfl) (by kernel_rfl) (by intro c a d v w h; cases d <;> exact h) ?_; replace S := S.drew
              repeat (first | (first | (refine tree_calm (v := ?_) ?_ rfl (by decide +kernel) rfl ?_ ?_; rotate_left; (focus (first | exact S | (refine S.sub (subL HL0 HL ?_); (repeat (first | exact List.Sublist.refl _ | apply List.Sublist.cons)); done))); (focus (intro w' hS'; (try dsimp only at hS'); go_simp; try rfl)); (try simp only [Act.put, List.setIfInBounds_toArray, List.set_cons_zero, List.set_cons_succ])) | (refine tree_any (v := ?_) ?_ rfl rfl ?_ ?_; rotate_left; (focus (first | exact S | (refine S.sub (subL HL0 HL ?_); (repeat (first | exact List.Sublist.refl _ | apply List.Sublist.cons)); done))); (focus (intro w'; go_simp; try rfl)); (try simp only [Act.put, List.setIfInBounds_toArray, List.set_cons_zero, List.set_cons_succ]))) | (refine tree_skip ?_ rfl rfl ?_; (focus (first | exact S | (refine S.sub (subL HL0 HL ?_); (repeat (first | exact List.Sublist.refl _ | apply List.Sublist.cons)); done))); (try simp only [Act.put, List.setIfInBounds_toArray, List.set_cons_zero, List.set_cons_succ])) | (refine tree_actSkip rfl rfl ?_ ?_ tree_stop; (focus (first | exact S | (refine S.sub (subL HL0 HL ?_); (repeat (first | exact List.Sublist.refl _ | apply List.Sublist.cons)); done))); (try simp only [Act.put, List.setIfInBounds_toArray, List.set_cons_zero, List.set_cons_succ])) | (refine tree_act rfl rfl ?_ tree_stop; intro K hK; go_wp2_with (first | (go_at_call 80; refine (C_rnd _ _).mono ?_; rintro e w' ⟨rfl, rfl⟩) | (go_at_call 81; refine (C_spec_RingValid _ _).mono ?_; rintro e w' ⟨rfl, rfl⟩)); (refine hK.out _ _ ?_ ?_; (focus (first | exact fun _ => S | (intro _; refine S.sub (subL HL0 HL ?_); (repeat (first | exact List.Sublist.refl _ | apply List.Sublist.cons)); done) | (refine sink_no ?_; kernel_rfl))); clear hK K; (try simp only [Act.put, List.setIfInBounds_toArray, List.set_cons_zero, List.set_cons_succ]))))
              refine tree_fin ?_
              go_wp2
              go_ret
              exact ⟨by rw [EE.out]; rfl, S.below⟩
            have a2' : decide (r < l) = false := decide_eq_false a2
            by_cases a5 : k % 2 = 1
            · have p1 : ((k : Int) % 2 == 1) = true := by rw [beq_iff_eq]; omega
              by_cases a6 : r = l
              · have a6' : (r != l) = false := by rw [a6]; exact bne_self_eq_false _
                have HA6 := Lib.hid a6
                have hok : mOk zs k = true := by rw [HM.out]; subst a6; simp [a1, a2, a3, a4]
                have HOK := Lib.hid hok
                clear hok a3 a6
                have HL0 := HL; have F0 := F; refine wp_region_tree (S := fun w' => St w0 w' L) (.calm 0 (.calm 1 (.act 2 (.calm 3 (.calm 4 (.calm 5 (.calm 6 (.act 7 (.calm 8 (.calm 9 (.calm 10 (.calm 11 (.calm 12 (.calm 13 (.calm 14 (.calm 15 (.calm 16 (.calm 17 (.calm 18 (.calm 19 (.calm 20 (.calm 21 (.calm 22 (.calm 23 (.calm 24 (.calm 25 (.calm 26 (.calm 27 (.calm 28 (.calm 29 (.calm 30 (.calm 31 (.calm 32 (.calm 33 (.calm 34 (.calm 35 (.calm 36 (.calm 37 (.calm 38 (.calm 39 (.calm 40 (.calm 41 (.calm 42 (.calm 43 (.calm 44 (.calm 45 (.calm 46 (.calm 47 (.calm 48 .fin))))))))))))))))))))))))))))))))))))))))) .stop))))) .stop))) (by kernel_rfl) (by kernel_rfl) (by kernel_rfl) (by intro c a d v w h; cases d <;> exact h) ?_; replace S := S.drew
                repeat (first | (first | (refine tree_calm (v := ?_) ?_ rfl (by decide +kernel) rfl ?_ ?_; rotate_left; (focus (first | exact S | (refine S.sub (subL HL0 HL ?_); (repeat (first | exact List.Sublist.refl _ | apply List.Sublist.cons)); done))); (focus (intro w' hS'; (try dsimp only at hS'); go_simp; try rfl)); (try simp only [Act.put, List.setIfInBounds_toArray, List.set_cons_zero, List.set_cons_succ])) | (refine tree_any (v := ?_) ?_ rfl rfl ?_ ?_; rotate_left; (focus (first | exact S | (refine S.sub (subL HL0 HL ?_); (repeat (first | exact List.Sublist.refl _ | apply List.Sublist.cons)); done))); (focus (intro w'; go_simp; try rfl)); (try simp only [Act.put, List.setIfInBounds_toArray, List.set_cons_zero, List.set_cons_succ]))) | (refine tree_skip ?_ rfl rfl ?_; (focus (first | exact S | (refine S.sub (subL HL0 HL ?_); (repeat (first | exact List.Sublist.refl _ | apply List.Sublist.cons)); done))); (try simp only [Act.put, List.setIfInBounds_toArray, List.set_cons_zero, List.set_cons_succ])) | (refine tree_actSkip rfl rfl ?_ ?_ tree_stop; (focus (first | exact S | (refine S.sub (subL HL0 HL ?_); (repeat (first | exact List.Sublist.refl _ | apply List.Sublist.cons)); done))); (try simp only [Act.put, List.setIfInBounds_toArray, List.set_cons_zero, List.set_cons_succ])) | (refine tree_act rfl rfl ?_ tree_stop; intro K hK; go_wp2_with (first | (go_at_call 80; refine (C_rnd _ _).mono ?_; rintro e w' ⟨rfl, rfl⟩) | (go_at_call 81; refine (C_spec_RingValid _ _).mono ?_; rintro e w' ⟨rfl, rfl⟩)); (refine hK.out _ _ ?_ ?_; (focus (first | exact fun _ => S | (intro _; refine S.sub (subL HL0 HL ?_); (repeat (first | exact List.Sublist.refl _ | apply List.Sublist.cons)); done) | (refine sink_no ?_; kernel_rfl))); clear hK K; (try simp only [Act.put, List.setIfInBounds_toArray, List.set_cons_zero, List.set_cons_succ]))))
                refine tree_fin ?_
                go_wp2
                go_roundw
                case rel =>
                  refine ⟨k + 1, by omega, by go_num, Lib.hid (fun j hj => ?_), S.sub (List.nil_sublist _)⟩
                  rcases Nat.lt_or_ge j k with h | h
                  · exact hall.out j h
                  · obtain rfl : j = k := by omega
                    exact HOK.out
                case measure => simp [intOf]; omega
              · have a6' : (r != l) = true := by rw [bne_iff_ne]; exact a6
                have hbad : mOk zs k = false := by rw [HM.out]; simp [a5, a6]
                have EE := Lib.hid (msgsOk_bad hlt hbad)
                clear hbad
                have HL0 := HL; have F0 := F; refine wp_region_tree (S := fun w' => St w0 w' L) (.calm 0 (.calm 1 (.act 2 (.calm 3 (.calm 4 (.calm 5 (.calm 6 (.act 7 (.calm 8 (.calm 9 (.calm 10 (.calm 11 (.calm 12 (.calm 13 (.calm 14 (.calm 15 (.calm 16 (.calm 17 (.calm 18 (.calm 19 (.calm 20 (.calm 21 (.calm 22 (.calm 23 (.calm 24 (.calm 25 (.calm 26 (.calm 27 (.calm 28 (.calm 29 (.calm 30 (.calm 31 (.calm 32 (.calm 33 (.calm 34 (.calm 35 (.calm 36 (.calm 37 (.calm 38 (.calm 39 (.calm 40 (.calm 41 (.calm 42 (.calm 43 (.calm 44 (.calm 45 (.calm 46 (.calm 47 (.calm 48 .fin))))))))))))))))))))))))))))))))))))))))) .stop))))) .stop))) (by kernel_rfl) (by kernel_rfl) (by kernel_rfl) (by intro c a d v w h; cases d <;> exact h) ?_; replace S := S.drew
                repeat (first | (first | (refine tree_calm (v := ?_) ?_ rfl (by decide +kernel) rfl ?_ ?_; rotate_left; (focus (first | exact S | (refine S.sub (subL HL0 HL ?_); (repeat (first | exact List.Sublist.refl _ | apply List.Sublist.cons)); done))); (focus (intro w' hS'; (try dsimp only at hS'); go_simp; try rfl)); (try simp only [Act.put, List.setIfInBounds_toArray, List.set_cons_zero, List.set_cons_succ])) | (refine tree_any (v := ?_) ?_ rfl rfl ?_ ?_; rotate_left; (focus (first | exact S | (refine S.sub (subL HL0 HL ?_); (repeat (first | exact List.Sublist.refl _ | apply List.Sublist.cons)); done))); (focus (intro w'; go_simp; try rfl)); (try simp only [Act.put, List.setIfInBounds_toArray, List.set_cons_zero, List.set_cons_succ]))) | (refine tree_skip ?_ rfl rfl ?_; (focus (first | exact S | (refine S.sub (subL HL0 HL ?_); (repeat (first | exact List.Sublist.refl _ | apply List.Sublist.cons)); done))); (try simp only [Act.put, List.setIfInBounds_toArray, List.set_cons_zero, List.set_cons_succ])) | (refine tree_actSkip rfl rfl ?_ ?_ tree_stop; (focus (first | exact S | (refine S.sub (subL HL0 HL ?_); (repeat (first | exact List.Sublist.refl _ | apply List.Sublist.cons)); done))); (try simp only [Act.put, List.setIfInBounds_toArray, List.set_cons_zero, List.set_cons_succ])) | (refine tree_act rfl rfl ?_ tree_stop; intro K hK; go_wp2_with (first | (go_at_call 80; refine (C_rnd _ _).mono ?_; rintro e w' ⟨rfl, rfl⟩) | (go_at_call 81; refine (C_spec_RingValid _ _).mono ?_; rintro e w' ⟨rfl, rfl⟩)); (refine hK.out _ _ ?_ ?_; (focus (first | exact fun _ => S | (intro _; refine S.sub (subL HL0 HL ?_); (repeat (first | exact List.Sublist.refl _ | apply List.Sublist.cons)); done) | (refine sink_no ?_; kernel_rfl))); clear hK K; (try simp only [Act.put, List.setIfInBounds_toArray, List.set_cons_zero, List.set_cons_succ]))))
                refine tree_fin ?_
                go_wp2
                go_ret
                exact ⟨by rw [EE.out]; rfl, S.below⟩
            · have p1 : ((k : Int) % 2 == 1) = false := by rw [beq_eq_false_iff_ne]; omega
              have hok : mOk zs k = true := by rw [HM.out]; simp [a1, a2, a3, a4, a5]
              have HOK := Lib.hid hok
              clear hok a3
              have HL0 := HL; have F0 := F; refine wp_region_tree (S := fun w' => St w0 w' L) (.calm 0 (.calm 1 (.act 2 (.calm 3 (.calm 4 (.calm 5 (.calm 6 (.act 7 (.calm 8 (.calm 9 (.calm 10 (.calm 11 (.calm 12 (.calm 13 (.calm 14 (.calm 15 (.calm 16 (.calm 17 (.calm 18 (.calm 19 (.calm 20 (.calm 21 (.calm 22 (.calm 23 (.calm 24 (.calm 25 (.calm 26 (.calm 27 (.calm 28 (.calm 29 (.calm 30 (.calm 31 (.calm 32 (.calm 33 (.calm 34 (.calm 35 (.calm 36 (.calm 37 (.calm 38 (.calm 39 (.calm 40 (.calm 41 (.calm 42 (.calm 43 (.calm 44 (.calm 45 (.calm 46 (.calm 47 (.calm 48 .fin))))))))))))))))))))))))))))))))))))))))) .stop))))) .stop))) (by kernel_rfl) (by kernel_rfl) (by kernel_rfl) (by intro c a d v w h; cases d <;> exact h) ?_; replace S := S.drew
              repeat (first | (first | (refine tree_calm (v := ?_) ?_ rfl (by decide +kernel) rfl ?_ ?_; rotate_left; (focus (first | exact S | (refine S.sub (subL HL0 HL ?_); (repeat (first | exact List.Sublist.refl _ | apply List.Sublist.cons)); done))); (focus (intro w' hS'; (try dsimp only at hS'); go_simp; try rfl)); (try simp only [Act.put, List.setIfInBounds_toArray, List.set_cons_zero, List.set_cons_succ])) | (refine tree_any (v := ?_) ?_ rfl rfl ?_ ?_; rotate_left; (focus (first | exact S | (refine S.sub (subL HL0 HL ?_); (repeat (first | exact List.Sublist.refl _ | apply List.Sublist.cons)); done))); (focus (intro w'; go_simp; try rfl)); (try simp only [Act.put, List.setIfInBounds_toArray, List.set_cons_zero, List.set_cons_succ]))) | (refine tree_skip ?_ rfl rfl ?_; (focus (first | exact S | (refine S.sub (subL HL0 HL ?_); (repeat (first | exact List.Sublist.refl _ | apply List.Sublist.cons)); done))); (try simp only [Act.put, List.setIfInBounds_toArray, List.set_cons_zero, List.set_cons_succ])) | (refine tree_actSkip rfl rfl ?_ ?_ tree_stop; (focus (first | exact S | (refine S.sub (subL HL0 HL ?_); (repeat (first | exact List.Sublist.refl _ | apply List.Sublist.cons)); done))); (try simp only [Act.put, List.setIfInBounds_toArray, List.set_cons_zero, List.set_cons_succ])) | (refine tree_act rfl rfl ?_ tree_stop; intro K hK; go_wp2_with (first | (go_at_call 80; refine (C_rnd _ _).mono ?_; rintro e w' ⟨rfl, rfl⟩) | (go_at_call 81; refine (C_spec_RingValid _ _).mono ?_; rintro e w' ⟨rfl, rfl⟩)); (refine hK.out _ _ ?_ ?_; (focus (first | exact fun _ => S | (intro _; refine S.sub (subL HL0 HL ?_); (repeat (first | exact List.Sublist.refl _ | apply List.Sublist.cons)); done) | (refine sink_no ?_; kernel_rfl))); clear hK K; (try simp only [Act.put, List.setIfInBounds_toArray, List.set_cons_zero, List.set_cons_succ]))))
              refine tree_fin ?_
              go_wp2
              go_roundw
              case rel =>
                refine ⟨k + 1, by omega, by go_num, Lib.hid (fun j hj => ?_), S.sub (List.nil_sublist _)⟩
                rcases Nat.lt_or_ge j k with h | h
                · exact hall.out j h
                · obtain rfl : j = k := by omega
                  exact HOK.out
              case measure => simp [intOf]; omega
    · obtain rfl : k = n := by omega
      have EE := Lib.hid (msgsOk_good hall.out)
      have e2 : decide ((k : Int) ≤ 2000) = decide (k ≤ 2000) := by rw [decide_eq_decide]; omega
      by_cases e1 : k % 2 = 0
      · have e1' : ((k : Int) % 2 == 0) = true := by rw [beq_iff_eq]; omega
        go_wp2
        go_ret
        exact ⟨by rw [EE.out]; simp [e1, e2], S.below⟩
      · have e1' : ((k : Int) % 2 == 0) = false := by rw [beq_eq_false_iff_ne]; omega
        go_wp2
        go_ret
        exact ⟨by rw [EE.out]; simp [e1, e2], S.below⟩
end Go.Proofs.Ytdgeiooacghcoaa
