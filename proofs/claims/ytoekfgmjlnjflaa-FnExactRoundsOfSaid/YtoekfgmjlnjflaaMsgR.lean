/-
  Contracts: in how many rounds there are messages.
-/
import Derived.Test.YtoekfgmjlnjflaaMsgS
namespace Go.Proofs.Ytoekfgmjlnjflaa
set_option linter.unusedSimpArgs false
set_option linter.unusedVariables false
set_option linter.unusedSectionVars false
open Go Go.RowKit
set_option maxHeartbeats 8000000
set_option maxRecDepth 20000
theorem rounds_bd (zs : List Int) : ∀ k, 0 ≤ rounds zs k ∧ rounds zs k ≤ k
  | 0 => ⟨Int.le_refl _, Int.le_refl _⟩
  | 1 => by simp [rounds]
  | k + 2 => by
    have := rounds_bd zs (k + 1)
    unfold rounds
    split <;> omega
theorem rounds_same {zs : List Int} {j : Nat} (h : mR zs (j + 1) = mR zs j) : rounds zs (j + 1 + 1) = rounds zs (j + 1) := by
  show (if _ then _ else _) = _
  rw [if_pos h]
theorem rounds_new {zs : List Int} {j : Nat} (h : ¬ mR zs (j + 1) = mR zs j) : rounds zs (j + 1 + 1) = rounds zs (j + 1) + 1 := by
  show (if _ then _ else _) = _
  rw [if_neg h]
theorem C_impl_RoundsOf (v : Value) (n : Nat) (zs : List Int) (w0 : World) (h : Msgs w0 v n zs) :
    Calls Try.prog 46 #[v] w0 fun e w' => e = .returned (.int .i64 (roundsOf n zs)) ∧ Below w0.heap.size w0 w' := by
  have CM := C_impl_MessagesValid v n zs w0 h
  obtain ⟨hx, hl, A, cap, rfl, hcap, hmax, hA⟩ := h
  have HX := Lib.hid hx
  have HA := Lib.hid hA
  clear hl hA hx
  unfold maxLen at hmax
  cases hm : msgsOk n zs with
  | false =>
    rw [hm] at CM
    have e : roundsOf n zs = -1 := by simp [roundsOf, hm]
    rw [e]
    clear e hm
    obtain ⟨L, HL, S⟩ := st_start w0; have F : True := trivial
    go_enter Try.func46, Try.ntmps46
    go_wp2_with (first | (refine wpList_box rfl S _ _ rfl ?_; intro g w L hM T; clear F S; (try rw [HL.out] at hM); clear HL; (try simp [Act.put, Act.eval, Value.cells, splice] at hM); have HL := Lib.hid hM; clear hM; have S := T; clear T; have F := factsAll HL S; (try simp only [factsOf, cellsFrom, and_true, true_and, Nat.reduceAdd] at F))  | (refine wpList_store_box rfl S _ _ _ rfl 0 _ _ _ _ (atOf HL rfl) rfl _ rfl (by kernel_rfl) rfl rfl ?_; intro w L hM T; clear F S; (try rw [HL.out] at hM); clear HL; (try simp [Act.put, Act.eval, Value.cells, splice] at hM); have HL := Lib.hid hM; clear hM; have S := T; clear T; have F := factsAll HL S; (try simp only [factsOf, cellsFrom, and_true, true_and, Nat.reduceAdd] at F)) | (refine wpList_store_box rfl S _ _ _ rfl 1 _ _ _ _ (atOf HL rfl) rfl _ rfl (by kernel_rfl) rfl rfl ?_; intro w L hM T; clear F S; (try rw [HL.out] at hM); clear HL; (try simp [Act.put, Act.eval, Value.cells, splice] at hM); have HL := Lib.hid hM; clear hM; have S := T; clear T; have F := factsAll HL S; (try simp only [factsOf, cellsFrom, and_true, true_and, Nat.reduceAdd] at F)) | (refine wpList_store_box rfl S _ _ _ rfl 2 _ _ _ _ (atOf HL rfl) rfl _ rfl (by kernel_rfl) rfl rfl ?_; intro w L hM T; clear F S; (try rw [HL.out] at hM); clear HL; (try simp [Act.put, Act.eval, Value.cells, splice] at hM); have HL := Lib.hid hM; clear hM; have S := T; clear T; have F := factsAll HL S; (try simp only [factsOf, cellsFrom, and_true, true_and, Nat.reduceAdd] at F)) | (refine wpList_store_box rfl S _ _ _ rfl 3 _ _ _ _ (atOf HL rfl) rfl _ rfl (by kernel_rfl) rfl rfl ?_; intro w L hM T; clear F S; (try rw [HL.out] at hM); clear HL; (try simp [Act.put, Act.eval, Value.cells, splice] at hM); have HL := Lib.hid hM; clear hM; have S := T; clear T; have F := factsAll HL S; (try simp only [factsOf, cellsFrom, and_true, true_and, Nat.reduceAdd] at F))  | (go_at_call 28; refine (CM).mono ?_; rintro e w ⟨rfl, hb⟩; replace S := S.grow hb; clear hb))
    go_ret
    exact ⟨rfl, S.below⟩
  | true =>
    rw [hm] at CM
    have e : roundsOf n zs = rounds zs n := by simp [roundsOf, hm]
    rw [e]
    clear e hm
    obtain ⟨L, HL, S⟩ := st_start w0; have F : True := trivial
    go_enter Try.func46, Try.ntmps46
    go_wp2_with (first | (refine wpList_box rfl S _ _ rfl ?_; intro g w L hM T; clear F S; (try rw [HL.out] at hM); clear HL; (try simp [Act.put, Act.eval, Value.cells, splice] at hM); have HL := Lib.hid hM; clear hM; have S := T; clear T; have F := factsAll HL S; (try simp only [factsOf, cellsFrom, and_true, true_and, Nat.reduceAdd] at F))  | (refine wpList_store_box rfl S _ _ _ rfl 0 _ _ _ _ (atOf HL rfl) rfl _ rfl (by kernel_rfl) rfl rfl ?_; intro w L hM T; clear F S; (try rw [HL.out] at hM); clear HL; (try simp [Act.put, Act.eval, Value.cells, splice] at hM); have HL := Lib.hid hM; clear hM; have S := T; clear T; have F := factsAll HL S; (try simp only [factsOf, cellsFrom, and_true, true_and, Nat.reduceAdd] at F)) | (refine wpList_store_box rfl S _ _ _ rfl 1 _ _ _ _ (atOf HL rfl) rfl _ rfl (by kernel_rfl) rfl rfl ?_; intro w L hM T; clear F S; (try rw [HL.out] at hM); clear HL; (try simp [Act.put, Act.eval, Value.cells, splice] at hM); have HL := Lib.hid hM; clear hM; have S := T; clear T; have F := factsAll HL S; (try simp only [factsOf, cellsFrom, and_true, true_and, Nat.reduceAdd] at F)) | (refine wpList_store_box rfl S _ _ _ rfl 2 _ _ _ _ (atOf HL rfl) rfl _ rfl (by kernel_rfl) rfl rfl ?_; intro w L hM T; clear F S; (try rw [HL.out] at hM); clear HL; (try simp [Act.put, Act.eval, Value.cells, splice] at hM); have HL := Lib.hid hM; clear hM; have S := T; clear T; have F := factsAll HL S; (try simp only [factsOf, cellsFrom, and_true, true_and, Nat.reduceAdd] at F)) | (refine wpList_store_box rfl S _ _ _ rfl 3 _ _ _ _ (atOf HL rfl) rfl _ rfl (by kernel_rfl) rfl rfl ?_; intro w L hM T; clear F S; (try rw [HL.out] at hM); clear HL; (try simp [Act.put, Act.eval, Value.cells, splice] at hM); have HL := Lib.hid hM; clear hM; have S := T; clear T; have F := factsAll HL S; (try simp only [factsOf, cellsFrom, and_true, true_and, Nat.reduceAdd] at F))  | (go_at_call 28; refine (CM).mono ?_; rintro e w ⟨rfl, hb⟩; replace S := S.grow hb; clear hb))
    go_loopw [3, 11] (fun l i wr => ∃ (k : Nat), k ≤ n ∧ i = .int .i64 k ∧ l = .int .i64 (rounds zs k) ∧ St w0 wr []) (fun _ i _ => n - (intOf i).toNat)
    case atStart => exact ⟨0, Nat.zero_le _, rfl, rfl, by rw [HL.out] at S; exact S⟩
    case round =>
      clear F HL S
      obtain ⟨k, hk, rfl, rfl, S⟩ := hrel
      obtain ⟨L, HL⟩ : ∃ L : List Ent, Hid (L = []) := ⟨_, Lib.hid rfl⟩
      rw [← HL.out] at S
      have F : True := trivial
      by_cases hlt : k < n
      · obtain ⟨b, off, rfl, hb, hc⟩ := HA.out (by omega)
        have hcc : ∀ j i u, (ints zs)[j + i]? = some u → w0.cell? ⟨b, off + j + i, none⟩ = some u := fun j i u h => by rw [Nat.add_assoc]; exact hc _ _ h
        have q : k * 3 + 3 ≤ zs.length := by rw [HX.out]; omega
        have c0 := (S.below.cell (p := ⟨b, off + k * 3, none⟩) hb).trans (hc (k * 3) _ (ints_getD zs (k * 3) (by omega)))
        have c1 := (S.below.cell (p := ⟨b, off + k * 3 + 1, none⟩) hb).trans (hcc (k * 3) 1 _ (ints_getD zs (k * 3 + 1) (by omega)))
        have c2 := (S.below.cell (p := ⟨b, off + k * 3 + 2, none⟩) hb).trans (hcc (k * 3) 2 _ (ints_getD zs (k * 3 + 2) (by omega)))
        rw [show zs.getD (k * 3) 0 = mR zs k from rfl] at c0
        generalize zs.getD (k * 3 + 1) 0 = f at c1
        generalize zs.getD (k * 3 + 2) 0 = x at c2
        have rb := rounds_bd zs k
        obtain ⟨r0, r1⟩ := rb
        rcases Nat.eq_zero_or_pos k with hz | hp
        · have en : rounds zs (k + 1) = rounds zs k + 1 := by rw [hz]; rfl
          have kz : ((k : Int) == 0) = true := by rw [beq_iff_eq]; omega
          generalize mR zs k = r at c0
          generalize rounds zs k = m at *
          have EN := Lib.hid en
          clear en hc hcc q hz
          go_upto_region 7 with (first | (refine wpList_alloc rfl S 75 _ rfl zMsg ?_; intro g w L hM T; clear F S; (try rw [HL.out] at hM); clear HL; (try simp [Act.put, Act.eval, Value.cells, splice] at hM); have HL := Lib.hid hM; clear hM; have S := T; clear T; have F := factsAll HL S; (try simp only [factsOf, cellsFrom, and_true, true_and, Nat.reduceAdd] at F)) | (refine wpList_store_box rfl S _ _ _ rfl 0 _ _ _ _ (atOf HL rfl) rfl _ rfl (by kernel_rfl) rfl rfl ?_; intro w L hM T; clear F S; (try rw [HL.out] at hM); clear HL; (try simp [Act.put, Act.eval, Value.cells, splice] at hM); have HL := Lib.hid hM; clear hM; have S := T; clear T; have F := factsAll HL S; (try simp only [factsOf, cellsFrom, and_true, true_and, Nat.reduceAdd] at F)))
          clear c0 c1 c2
          have HL0 := HL; have F0 := F; refine wp_region_tree (S := fun w' => St w0 w' L) (.calm 0 (.calm 1 (.calm 2 (.calm 3 (.calm 4 (.calm 5 (.calm 6 (.calm 7 (.calm 8 (.calm 9 (.calm 10 (.calm 11 (.calm 12 .fin))))))))))))) (by kernel_rfl) (by kernel_rfl) (by kernel_rfl) (by intro c a d v w h; cases d <;> exact h) ?_; replace S := S.drew
          repeat (first | (refine tree_calm (v := ?_) ?_ rfl rfl ?_ ?_; rotate_left; (focus (first | exact S | (refine S.sub (subL HL0 HL ?_); (repeat (first | exact List.Sublist.refl _ | apply List.Sublist.cons)); done))); (focus (intro w' hS'; (try dsimp only at hS'); go_simp; try rfl)); (try simp only [Act.put, List.setIfInBounds_toArray, List.set_cons_zero, List.set_cons_succ])) | (refine tree_skip ?_ rfl rfl ?_; (focus (first | exact S | (refine S.sub (subL HL0 HL ?_); (repeat (first | exact List.Sublist.refl _ | apply List.Sublist.cons)); done))); (try simp only [Act.put, List.setIfInBounds_toArray, List.set_cons_zero, List.set_cons_succ])) | (refine tree_actSkip rfl rfl ?_ ?_ tree_stop; (focus (first | exact S | (refine S.sub (subL HL0 HL ?_); (repeat (first | exact List.Sublist.refl _ | apply List.Sublist.cons)); done))); (try simp only [Act.put, List.setIfInBounds_toArray, List.set_cons_zero, List.set_cons_succ])) | (refine tree_act rfl rfl ?_ tree_stop; intro K hK; go_wp2_with (first | fail); (refine hK.out _ _ ?_ ?_; (focus (first | exact fun _ => S | (intro _; refine S.sub (subL HL0 HL ?_); (repeat (first | exact List.Sublist.refl _ | apply List.Sublist.cons)); done) | (refine sink_no ?_; kernel_rfl))); clear hK K; (try simp only [Act.put, List.setIfInBounds_toArray, List.set_cons_zero, List.set_cons_succ]))))
          refine tree_fin ?_
          go_wp2
          go_roundw
          case rel => exact ⟨k + 1, by omega, by go_num, by rw [EN.out], S.sub (List.nil_sublist _)⟩
          case measure => simp [intOf]; omega
        · obtain ⟨j, hj⟩ : ∃ j, k = j + 1 := ⟨k - 1, by omega⟩
          have cj := hc (j * 3) _ (ints_getD zs (j * 3) (by omega))
          have ej : IntKind.i64.wrap ((k : Int) - 1) = (j : Int) := by rw [IntKind.wrap_i64]; omega
          have hjn : (j : Int) < n := by omega
          have hj0 : 0 ≤ (j : Int) := by omega
          have kz : ((k : Int) == 0) = false := by rw [beq_eq_false_iff_ne]; omega
          rw [show zs.getD (j * 3) 0 = mR zs j from rfl] at cj
          by_cases hs : mR zs k = mR zs j
          · have en : rounds zs (k + 1) = rounds zs k := by subst hj; exact rounds_same hs
            rw [hs] at c0
            generalize mR zs j = r at c0 cj
            generalize rounds zs k = m at *
            have EN := Lib.hid en
            clear en hc hcc q hj hs
            go_upto_region 7 with (first | (refine wpList_alloc rfl S 75 _ rfl zMsg ?_; intro g w L hM T; clear F S; (try rw [HL.out] at hM); clear HL; (try simp [Act.put, Act.eval, Value.cells, splice] at hM); have HL := Lib.hid hM; clear hM; have S := T; clear T; have F := factsAll HL S; (try simp only [factsOf, cellsFrom, and_true, true_and, Nat.reduceAdd] at F)) | (refine wpList_store_box rfl S _ _ _ rfl 0 _ _ _ _ (atOf HL rfl) rfl _ rfl (by kernel_rfl) rfl rfl ?_; intro w L hM T; clear F S; (try rw [HL.out] at hM); clear HL; (try simp [Act.put, Act.eval, Value.cells, splice] at hM); have HL := Lib.hid hM; clear hM; have S := T; clear T; have F := factsAll HL S; (try simp only [factsOf, cellsFrom, and_true, true_and, Nat.reduceAdd] at F)))
            clear c0 c1 c2
            have cp := fun w' (S' : St w0 w' L) => (S'.below.cell (p := ⟨b, off + j * 3, none⟩) hb).trans cj
            clear cj
            have HL0 := HL; have F0 := F; refine wp_region_tree (S := fun w' => St w0 w' L) (.calm 0 (.calm 1 (.calm 2 (.calm 3 (.calm 4 (.calm 5 (.calm 6 (.calm 7 (.calm 8 (.calm 9 (.calm 10 (.calm 11 (.calm 12 .fin))))))))))))) (by kernel_rfl) (by kernel_rfl) (by kernel_rfl) (by intro c a d v w h; cases d <;> exact h) ?_; replace S := S.drew
            repeat (first | (refine tree_calm (v := ?_) ?_ rfl rfl ?_ ?_; rotate_left; (focus (first | exact S | (refine S.sub (subL HL0 HL ?_); (repeat (first | exact List.Sublist.refl _ | apply List.Sublist.cons)); done))); (focus (intro w' hS'; (try dsimp only at hS'); go_simp; try rfl)); (try simp only [Act.put, List.setIfInBounds_toArray, List.set_cons_zero, List.set_cons_succ])) | (refine tree_skip ?_ rfl rfl ?_; (focus (first | exact S | (refine S.sub (subL HL0 HL ?_); (repeat (first | exact List.Sublist.refl _ | apply List.Sublist.cons)); done))); (try simp only [Act.put, List.setIfInBounds_toArray, List.set_cons_zero, List.set_cons_succ])) | (refine tree_actSkip rfl rfl ?_ ?_ tree_stop; (focus (first | exact S | (refine S.sub (subL HL0 HL ?_); (repeat (first | exact List.Sublist.refl _ | apply List.Sublist.cons)); done))); (try simp only [Act.put, List.setIfInBounds_toArray, List.set_cons_zero, List.set_cons_succ])) | (refine tree_act rfl rfl ?_ tree_stop; intro K hK; go_wp2_with (first | fail); (refine hK.out _ _ ?_ ?_; (focus (first | exact fun _ => S | (intro _; refine S.sub (subL HL0 HL ?_); (repeat (first | exact List.Sublist.refl _ | apply List.Sublist.cons)); done) | (refine sink_no ?_; kernel_rfl))); clear hK K; (try simp only [Act.put, List.setIfInBounds_toArray, List.set_cons_zero, List.set_cons_succ]))))
            refine tree_fin ?_
            go_wp2
            go_roundw
            case rel => exact ⟨k + 1, by omega, by go_num, by rw [EN.out], S.sub (List.nil_sublist _)⟩
            case measure => simp [intOf]; omega
          · have en : rounds zs (k + 1) = rounds zs k + 1 := by subst hj; exact rounds_new hs
            have hs' : (mR zs k != mR zs j) = true := by rw [bne_iff_ne]; exact hs
            generalize mR zs k = r at c0 hs'
            generalize mR zs j = r' at cj hs'
            generalize rounds zs k = m at *
            have EN := Lib.hid en
            clear en hc hcc q hj hs
            go_upto_region 7 with (first | (refine wpList_alloc rfl S 75 _ rfl zMsg ?_; intro g w L hM T; clear F S; (try rw [HL.out] at hM); clear HL; (try simp [Act.put, Act.eval, Value.cells, splice] at hM); have HL := Lib.hid hM; clear hM; have S := T; clear T; have F := factsAll HL S; (try simp only [factsOf, cellsFrom, and_true, true_and, Nat.reduceAdd] at F)) | (refine wpList_store_box rfl S _ _ _ rfl 0 _ _ _ _ (atOf HL rfl) rfl _ rfl (by kernel_rfl) rfl rfl ?_; intro w L hM T; clear F S; (try rw [HL.out] at hM); clear HL; (try simp [Act.put, Act.eval, Value.cells, splice] at hM); have HL := Lib.hid hM; clear hM; have S := T; clear T; have F := factsAll HL S; (try simp only [factsOf, cellsFrom, and_true, true_and, Nat.reduceAdd] at F)))
            clear c0 c1 c2
            have cp := fun w' (S' : St w0 w' L) => (S'.below.cell (p := ⟨b, off + j * 3, none⟩) hb).trans cj
            clear cj
            have HL0 := HL; have F0 := F; refine wp_region_tree (S := fun w' => St w0 w' L) (.calm 0 (.calm 1 (.calm 2 (.calm 3 (.calm 4 (.calm 5 (.calm 6 (.calm 7 (.calm 8 (.calm 9 (.calm 10 (.calm 11 (.calm 12 .fin))))))))))))) (by kernel_rfl) (by kernel_rfl) (by kernel_rfl) (by intro c a d v w h; cases d <;> exact h) ?_; replace S := S.drew
            repeat (first | (refine tree_calm (v := ?_) ?_ rfl rfl ?_ ?_; rotate_left; (focus (first | exact S | (refine S.sub (subL HL0 HL ?_); (repeat (first | exact List.Sublist.refl _ | apply List.Sublist.cons)); done))); (focus (intro w' hS'; (try dsimp only at hS'); go_simp; try rfl)); (try simp only [Act.put, List.setIfInBounds_toArray, List.set_cons_zero, List.set_cons_succ])) | (refine tree_skip ?_ rfl rfl ?_; (focus (first | exact S | (refine S.sub (subL HL0 HL ?_); (repeat (first | exact List.Sublist.refl _ | apply List.Sublist.cons)); done))); (try simp only [Act.put, List.setIfInBounds_toArray, List.set_cons_zero, List.set_cons_succ])) | (refine tree_actSkip rfl rfl ?_ ?_ tree_stop; (focus (first | exact S | (refine S.sub (subL HL0 HL ?_); (repeat (first | exact List.Sublist.refl _ | apply List.Sublist.cons)); done))); (try simp only [Act.put, List.setIfInBounds_toArray, List.set_cons_zero, List.set_cons_succ])) | (refine tree_act rfl rfl ?_ tree_stop; intro K hK; go_wp2_with (first | fail); (refine hK.out _ _ ?_ ?_; (focus (first | exact fun _ => S | (intro _; refine S.sub (subL HL0 HL ?_); (repeat (first | exact List.Sublist.refl _ | apply List.Sublist.cons)); done) | (refine sink_no ?_; kernel_rfl))); clear hK K; (try simp only [Act.put, List.setIfInBounds_toArray, List.set_cons_zero, List.set_cons_succ]))))
            refine tree_fin ?_
            go_wp2
            go_roundw
            case rel => exact ⟨k + 1, by omega, by go_num, by rw [EN.out], S.sub (List.nil_sublist _)⟩
            case measure => simp [intOf]; omega
      · obtain rfl : k = n := by omega
        go_wp2
        go_ret
        exact ⟨rfl, S.below⟩
theorem C_spec_RoundsOf (v : Value) (n : Nat) (zs : List Int) (w0 : World) (h : Msgs w0 v n zs) :
    Calls Try.prog 45 #[v] w0 fun e w' => e = .returned (.int .i64 (roundsOf n zs)) ∧ Below w0.heap.size w0 w' := by
  have HM := Lib.hid h
  obtain ⟨hx, hl, A, cap, rfl, hcap, hmax, hA⟩ := h
  have HX := Lib.hid hx
  have HA := Lib.hid hA
  clear hl hA hx
  unfold maxLen at hmax
  obtain ⟨L, HL, S⟩ := st_start w0; have F : True := trivial
  go_enter Try.func45, Try.ntmps45
  go_wp2
  go_loopw [3, 4] (fun l i wr => ∃ (k : Nat), k ≤ n ∧ i = .int .i64 k ∧ l = .int .i64 (rounds zs k) ∧ St w0 wr []) (fun _ i _ => n - (intOf i).toNat)
  case atStart => exact ⟨0, Nat.zero_le _, rfl, rfl, by rw [HL.out] at S; exact S⟩
  case round =>
    clear F HL S
    obtain ⟨k, hk, rfl, rfl, S⟩ := hrel
    obtain ⟨L, HL⟩ : ∃ L : List Ent, Hid (L = []) := ⟨_, Lib.hid rfl⟩
    rw [← HL.out] at S
    have F : True := trivial
    by_cases hlt : k < n
    · obtain ⟨b, off, rfl, hb, hc⟩ := HA.out (by omega)
      have q : k * 3 + 3 ≤ zs.length := by rw [HX.out]; omega
      have c0 := hc (k * 3) _ (ints_getD zs (k * 3) (by omega))
      rw [show zs.getD (k * 3) 0 = mR zs k from rfl] at c0
      have rb := rounds_bd zs k
      obtain ⟨r0, r1⟩ := rb
      rcases Nat.eq_zero_or_pos k with hz | hp
      · have en : rounds zs (k + 1) = rounds zs k + 1 := by rw [hz]; rfl
        have kz : ((k : Int) == 0) = true := by rw [beq_iff_eq]; omega
        generalize rounds zs k = m at *
        have EN := Lib.hid en
        clear en hc c0 q hz
        go_upto_region 5 with (first | fail)
        have HL0 := HL; have F0 := F; refine wp_region_tree (S := fun w' => St w0 w' L) (.calm 0 (.calm 1 (.calm 2 (.calm 3 (.calm 4 (.calm 5 (.calm 6 (.calm 7 (.calm 8 (.calm 9 (.calm 10 (.calm 11 (.calm 12 (.calm 13 (.calm 14 (.calm 15 .fin)))))))))))))))) (by kernel_rfl) (by kernel_rfl) (by kernel_rfl) (by intro c a d v w h; cases d <;> exact h) ?_; replace S := S.drew
        repeat (first | (refine tree_calm (v := ?_) ?_ rfl rfl ?_ ?_; rotate_left; (focus (first | exact S | (refine S.sub (subL HL0 HL ?_); (repeat (first | exact List.Sublist.refl _ | apply List.Sublist.cons)); done))); (focus (intro w' hS'; (try dsimp only at hS'); go_simp; try rfl)); (try simp only [Act.put, List.setIfInBounds_toArray, List.set_cons_zero, List.set_cons_succ])) | (refine tree_skip ?_ rfl rfl ?_; (focus (first | exact S | (refine S.sub (subL HL0 HL ?_); (repeat (first | exact List.Sublist.refl _ | apply List.Sublist.cons)); done))); (try simp only [Act.put, List.setIfInBounds_toArray, List.set_cons_zero, List.set_cons_succ])) | (refine tree_actSkip rfl rfl ?_ ?_ tree_stop; (focus (first | exact S | (refine S.sub (subL HL0 HL ?_); (repeat (first | exact List.Sublist.refl _ | apply List.Sublist.cons)); done))); (try simp only [Act.put, List.setIfInBounds_toArray, List.set_cons_zero, List.set_cons_succ])) | (refine tree_act rfl rfl ?_ tree_stop; intro K hK; go_wp2_with (first | fail); (refine hK.out _ _ ?_ ?_; (focus (first | exact fun _ => S | (intro _; refine S.sub (subL HL0 HL ?_); (repeat (first | exact List.Sublist.refl _ | apply List.Sublist.cons)); done) | (refine sink_no ?_; kernel_rfl))); clear hK K; (try simp only [Act.put, List.setIfInBounds_toArray, List.set_cons_zero, List.set_cons_succ]))))
        refine tree_fin ?_
        go_wp2
        go_roundw
        case rel => exact ⟨k + 1, by omega, by go_num, by rw [EN.out], S.sub (by rw [HL.out]; exact List.Sublist.refl _)⟩
        case measure => simp [intOf]; omega
      · obtain ⟨j, hj⟩ : ∃ j, k = j + 1 := ⟨k - 1, by omega⟩
        have cj := hc (j * 3) _ (ints_getD zs (j * 3) (by omega))
        have ej : IntKind.i64.wrap ((k : Int) - 1) = (j : Int) := by rw [IntKind.wrap_i64]; omega
        have hjn : (j : Int) < n := by omega
        have hj0 : 0 ≤ (j : Int) := by omega
        have kz : ((k : Int) == 0) = false := by rw [beq_eq_false_iff_ne]; omega
        rw [show zs.getD (j * 3) 0 = mR zs j from rfl] at cj
        by_cases hs : mR zs k = mR zs j
        · have en : rounds zs (k + 1) = rounds zs k := by subst hj; exact rounds_same hs
          rw [hs] at c0
          generalize mR zs j = r at c0 cj
          generalize rounds zs k = m at *
          have EN := Lib.hid en
          clear en hc q hj hs
          go_upto_region 5 with (first | fail)
          have cp := fun w' (S' : St w0 w' L) => (S'.below.cell (p := ⟨b, off + j * 3, none⟩) hb).trans cj
          have cq := fun w' (S' : St w0 w' L) => (S'.below.cell (p := ⟨b, off + k * 3, none⟩) hb).trans c0
          clear cj c0
          have HL0 := HL; have F0 := F; refine wp_region_tree (S := fun w' => St w0 w' L) (.calm 0 (.calm 1 (.calm 2 (.calm 3 (.calm 4 (.calm 5 (.calm 6 (.calm 7 (.calm 8 (.calm 9 (.calm 10 (.calm 11 (.calm 12 (.calm 13 (.calm 14 (.calm 15 .fin)))))))))))))))) (by kernel_rfl) (by kernel_rfl) (by kernel_rfl) (by intro c a d v w h; cases d <;> exact h) ?_; replace S := S.drew
          repeat (first | (refine tree_calm (v := ?_) ?_ rfl rfl ?_ ?_; rotate_left; (focus (first | exact S | (refine S.sub (subL HL0 HL ?_); (repeat (first | exact List.Sublist.refl _ | apply List.Sublist.cons)); done))); (focus (intro w' hS'; (try dsimp only at hS'); go_simp; try rfl)); (try simp only [Act.put, List.setIfInBounds_toArray, List.set_cons_zero, List.set_cons_succ])) | (refine tree_skip ?_ rfl rfl ?_; (focus (first | exact S | (refine S.sub (subL HL0 HL ?_); (repeat (first | exact List.Sublist.refl _ | apply List.Sublist.cons)); done))); (try simp only [Act.put, List.setIfInBounds_toArray, List.set_cons_zero, List.set_cons_succ])) | (refine tree_actSkip rfl rfl ?_ ?_ tree_stop; (focus (first | exact S | (refine S.sub (subL HL0 HL ?_); (repeat (first | exact List.Sublist.refl _ | apply List.Sublist.cons)); done))); (try simp only [Act.put, List.setIfInBounds_toArray, List.set_cons_zero, List.set_cons_succ])) | (refine tree_act rfl rfl ?_ tree_stop; intro K hK; go_wp2_with (first | fail); (refine hK.out _ _ ?_ ?_; (focus (first | exact fun _ => S | (intro _; refine S.sub (subL HL0 HL ?_); (repeat (first | exact List.Sublist.refl _ | apply List.Sublist.cons)); done) | (refine sink_no ?_; kernel_rfl))); clear hK K; (try simp only [Act.put, List.setIfInBounds_toArray, List.set_cons_zero, List.set_cons_succ]))))
          refine tree_fin ?_
          go_wp2
          go_roundw
          case rel => exact ⟨k + 1, by omega, by go_num, by rw [EN.out], S.sub (by rw [HL.out]; exact List.Sublist.refl _)⟩
          case measure => simp [intOf]; omega
        · have en : rounds zs (k + 1) = rounds zs k + 1 := by subst hj; exact rounds_new hs
          have hs' : (mR zs k != mR zs j) = true := by rw [bne_iff_ne]; exact hs
          generalize mR zs k = r at c0 hs'
          generalize mR zs j = r' at cj hs'
          generalize rounds zs k = m at *
          have EN := Lib.hid en
          clear en hc q hj hs
          go_upto_region 5 with (first | fail)
          have cp := fun w' (S' : St w0 w' L) => (S'.below.cell (p := ⟨b, off + j * 3, none⟩) hb).trans cj
          have cq := fun w' (S' : St w0 w' L) => (S'.below.cell (p := ⟨b, off + k * 3, none⟩) hb).trans c0
          clear cj c0
          have HL0 := HL; have F0 := F; refine wp_region_tree (S := fun w' => St w0 w' L) (.calm 0 (.calm 1 (.calm 2 (.calm 3 (.calm 4 (.calm 5 (.calm 6 (.calm 7 (.calm 8 (.calm 9 (.calm 10 (.calm 11 (.calm 12 (.calm 13 (.calm 14 (.calm 15 .fin)))))))))))))))) (by kernel_rfl) (by kernel_rfl) (by kernel_rfl) (by intro c a d v w h; cases d <;> exact h) ?_; replace S := S.drew
          repeat (first | (refine tree_calm (v := ?_) ?_ rfl rfl ?_ ?_; rotate_left; (focus (first | exact S | (refine S.sub (subL HL0 HL ?_); (repeat (first | exact List.Sublist.refl _ | apply List.Sublist.cons)); done))); (focus (intro w' hS'; (try dsimp only at hS'); go_simp; try rfl)); (try simp only [Act.put, List.setIfInBounds_toArray, List.set_cons_zero, List.set_cons_succ])) | (refine tree_skip ?_ rfl rfl ?_; (focus (first | exact S | (refine S.sub (subL HL0 HL ?_); (repeat (first | exact List.Sublist.refl _ | apply List.Sublist.cons)); done))); (try simp only [Act.put, List.setIfInBounds_toArray, List.set_cons_zero, List.set_cons_succ])) | (refine tree_actSkip rfl rfl ?_ ?_ tree_stop; (focus (first | exact S | (refine S.sub (subL HL0 HL ?_); (repeat (first | exact List.Sublist.refl _ | apply List.Sublist.cons)); done))); (try simp only [Act.put, List.setIfInBounds_toArray, List.set_cons_zero, List.set_cons_succ])) | (refine tree_act rfl rfl ?_ tree_stop; intro K hK; go_wp2_with (first | fail); (refine hK.out _ _ ?_ ?_; (focus (first | exact fun _ => S | (intro _; refine S.sub (subL HL0 HL ?_); (repeat (first | exact List.Sublist.refl _ | apply List.Sublist.cons)); done) | (refine sink_no ?_; kernel_rfl))); clear hK K; (try simp only [Act.put, List.setIfInBounds_toArray, List.set_cons_zero, List.set_cons_succ]))))
          refine tree_fin ?_
          go_wp2
          go_roundw
          case rel => exact ⟨k + 1, by omega, by go_num, by rw [EN.out], S.sub (by rw [HL.out]; exact List.Sublist.refl _)⟩
          case measure => simp [intOf]; omega
    · obtain rfl : k = n := by omega
      have CM := fun w (S' : St w0 w L) => C_spec_MessagesValid _ k zs w ⟨HM.out.1, HM.out.2.at_ S'⟩
      cases hm : msgsOk k zs with
      | false =>
        have e : roundsOf k zs = -1 := by simp [roundsOf, hm]
        have EE := Lib.hid e
        clear e
        simp only [hm] at CM
        go_wp2_with (first | (go_at_call 26; refine (CM _ S).mono ?_; rintro e w ⟨rfl, hb⟩; replace S := S.grow hb; clear hb))
        go_ret
        exact ⟨by rw [EE.out]; rfl, S.below⟩
      | true =>
        have e : roundsOf k zs = rounds zs k := by simp [roundsOf, hm]
        have EE := Lib.hid e
        clear e
        simp only [hm] at CM
        go_wp2_with (first | (go_at_call 26; refine (CM _ S).mono ?_; rintro e w ⟨rfl, hb⟩; replace S := S.grow hb; clear hb))
        go_ret
        exact ⟨by rw [EE.out]; rfl, S.below⟩
end Go.Proofs.Ytoekfgmjlnjflaa
