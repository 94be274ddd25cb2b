/-
  Contracts: comparing messages.
-/
import Derived.Test.YtdgeiooacghcoaaMsg
namespace Go.Proofs.Ytdgeiooacghcoaa
set_option linter.unusedSimpArgs false
set_option linter.unusedVariables false
set_option linter.unusedSectionVars false
open Go Go.RowKit
set_option maxHeartbeats 8000000
set_option maxRecDepth 20000
theorem C_eqMessage (a b c : Int) (w0 : World) : Calls Try.prog 83 #[.agg #[.int .i64 a, .int .i64 b, .int .i64 c], .agg #[.int .i64 a, .int .i64 b, .int .i64 c]] w0 fun e w' => e = .returned (.bool true) ∧ Below w0.heap.size w0 w' := by
  obtain ⟨L, HL, S⟩ := st_start w0; have F : True := trivial
  go_enter Try.func83, Try.ntmps83
  go_wp2_with (first | (refine wpList_box rfl S _ _ rfl ?_; intro g w L hM T; clear F S; (try rw [HL.out] at hM); clear HL; (try simp [Act.put, Act.eval, Value.cells, splice] at hM); have HL := Lib.hid hM; clear hM; have S := T; clear T; have F := factsAll HL S; (try simp only [factsOf, cellsFrom, and_true, true_and, Nat.reduceAdd] at F))  | (refine wpList_store_box rfl S _ _ _ rfl 0 _ _ _ _ (atOf HL rfl) rfl _ rfl (by kernel_rfl) rfl rfl ?_; intro w L hM T; clear F S; (try rw [HL.out] at hM); clear HL; (try simp [Act.put, Act.eval, Value.cells, splice] at hM); have HL := Lib.hid hM; clear hM; have S := T; clear T; have F := factsAll HL S; (try simp only [factsOf, cellsFrom, and_true, true_and, Nat.reduceAdd] at F)) | (refine wpList_store_box rfl S _ _ _ rfl 1 _ _ _ _ (atOf HL rfl) rfl _ rfl (by kernel_rfl) rfl rfl ?_; intro w L hM T; clear F S; (try rw [HL.out] at hM); clear HL; (try simp [Act.put, Act.eval, Value.cells, splice] at hM); have HL := Lib.hid hM; clear hM; have S := T; clear T; have F := factsAll HL S; (try simp only [factsOf, cellsFrom, and_true, true_and, Nat.reduceAdd] at F)) | (refine wpList_store_box rfl S _ _ _ rfl 2 _ _ _ _ (atOf HL rfl) rfl _ rfl (by kernel_rfl) rfl rfl ?_; intro w L hM T; clear F S; (try rw [HL.out] at hM); clear HL; (try simp [Act.put, Act.eval, Value.cells, splice] at hM); have HL := Lib.hid hM; clear hM; have S := T; clear T; have F := factsAll HL S; (try simp only [factsOf, cellsFrom, and_true, true_and, Nat.reduceAdd] at F)) | (refine wpList_store_box rfl S _ _ _ rfl 3 _ _ _ _ (atOf HL rfl) rfl _ rfl (by kernel_rfl) rfl rfl ?_; intro w L hM T; clear F S; (try rw [HL.out] at hM); clear HL; (try simp [Act.put, Act.eval, Value.cells, splice] at hM); have HL := Lib.hid hM; clear hM; have S := T; clear T; have F := factsAll HL S; (try simp only [factsOf, cellsFrom, and_true, true_and, Nat.reduceAdd] at F))  )
  go_ret
  exact ⟨rfl, S.below⟩
theorem C_eqMessageS (u v : Value) (n : Nat) (zs : List Int) (w0 : World) (hu : Msgs w0 u n zs) (hv : Msgs w0 v n zs) :
    Calls Try.prog 29 #[u, v] w0 fun e w' => e = .returned (.bool true) ∧ Below w0.heap.size w0 w' := by
  obtain ⟨hx, _, A, cap, rfl, hcap, hmax, hA⟩ := hu
  obtain ⟨_, _, B, cap', rfl, hcap', hmax', hB⟩ := hv
  have HX := Lib.hid hx
  have HA := Lib.hid hA
  have HB := Lib.hid hB
  clear hA hB hx
  unfold maxLen at hmax hmax'
  obtain ⟨L, HL, S⟩ := st_start w0; have F : True := trivial
  go_enter Try.func29, Try.ntmps29
  go_wp2
  go_loopw [5] (fun i wr => ∃ (k : Nat), k ≤ n ∧ i = .int .i64 k ∧ St w0 wr L) (fun i _ => n - (intOf i).toNat)
  case atStart => exact ⟨0, Nat.zero_le _, rfl, S⟩
  case round =>
    clear S
    obtain ⟨k, hk, rfl, S⟩ := hrel
    by_cases hlt : k < n
    · obtain ⟨b, off, rfl, hb, hc⟩ := HA.out (by omega)
      obtain ⟨b', off', rfl, hb', hc'⟩ := HB.out (by omega)
      have hcc : ∀ j i u, (ints zs)[j + i]? = some u → w0.cell? ⟨b, off + j + i, none⟩ = some u := fun j i u h => by rw [Nat.add_assoc]; exact hc _ _ h
      have hcc' : ∀ j i u, (ints zs)[j + i]? = some u → w0.cell? ⟨b', off' + j + i, none⟩ = some u := fun j i u h => by rw [Nat.add_assoc]; exact hc' _ _ h
      have q : k * 3 + 3 ≤ zs.length := by rw [HX.out]; omega
      have a0 := fun w' (S' : St w0 w' L) => (S'.below.cell (p := ⟨b, off + k * 3, none⟩) hb).trans (hc (k * 3) _ (ints_getD zs (k * 3) (by omega)))
      have a1 := fun w' (S' : St w0 w' L) => (S'.below.cell (p := ⟨b, off + k * 3 + 1, none⟩) hb).trans (hcc (k * 3) 1 _ (ints_getD zs (k * 3 + 1) (by omega)))
      have a2 := fun w' (S' : St w0 w' L) => (S'.below.cell (p := ⟨b, off + k * 3 + 2, none⟩) hb).trans (hcc (k * 3) 2 _ (ints_getD zs (k * 3 + 2) (by omega)))
      have b0 := fun w' (S' : St w0 w' L) => (S'.below.cell (p := ⟨b', off' + k * 3, none⟩) hb').trans (hc' (k * 3) _ (ints_getD zs (k * 3) (by omega)))
      have b1 := fun w' (S' : St w0 w' L) => (S'.below.cell (p := ⟨b', off' + k * 3 + 1, none⟩) hb').trans (hcc' (k * 3) 1 _ (ints_getD zs (k * 3 + 1) (by omega)))
      have b2 := fun w' (S' : St w0 w' L) => (S'.below.cell (p := ⟨b', off' + k * 3 + 2, none⟩) hb').trans (hcc' (k * 3) 2 _ (ints_getD zs (k * 3 + 2) (by omega)))
      generalize zs.getD (k * 3) 0 = x0 at a0 b0
      generalize zs.getD (k * 3 + 1) 0 = x1 at a1 b1
      generalize zs.getD (k * 3 + 2) 0 = x2 at a2 b2
      clear hc hc' hcc hcc' q
      go_wp2_with fail
      have HL0 := HL; have F0 := F; refine wp_region_tree (S := fun w' => St w0 w' L) (.calm 0 (.calm 1 (.calm 2 (.calm 3 (.calm 4 (.calm 5 (.calm 6 (.calm 7 (.act 8 (.calm 9 .fin) .stop))))))))) (by kernel_rfl) (by kernel_rfl) (by kernel_rfl) (by intro c a d v w h; cases d <;> exact h) ?_; replace S := S.drew
      repeat (first | (first | (refine tree_calm (v := ?_) ?_ rfl (by decide +kernel) rfl ?_ ?_; rotate_left; (focus (first | exact S | (refine S.sub (subL HL0 HL ?_); (repeat (first | exact List.Sublist.refl _ | apply List.Sublist.cons)); done))); (focus (intro w' hS'; (try dsimp only at hS'); go_simp; try rfl)); (try simp only [Act.put, List.setIfInBounds_toArray, List.set_cons_zero, List.set_cons_succ])) | (refine tree_any (v := ?_) ?_ rfl rfl ?_ ?_; rotate_left; (focus (first | exact S | (refine S.sub (subL HL0 HL ?_); (repeat (first | exact List.Sublist.refl _ | apply List.Sublist.cons)); done))); (focus (intro w'; go_simp; try rfl)); (try simp only [Act.put, List.setIfInBounds_toArray, List.set_cons_zero, List.set_cons_succ]))) | (refine tree_skip ?_ rfl rfl ?_; (focus (first | exact S | (refine S.sub (subL HL0 HL ?_); (repeat (first | exact List.Sublist.refl _ | apply List.Sublist.cons)); done))); (try simp only [Act.put, List.setIfInBounds_toArray, List.set_cons_zero, List.set_cons_succ])) | (refine tree_act rfl rfl ?_ tree_stop; intro K hK; go_wp2_with (first | (go_at_call 83; refine (C_eqMessage _ _ _ _).mono ?_; rintro e w ⟨rfl, hb⟩; replace S := S.grow hb; clear hb)); (refine hK.out _ _ ?_ ?_; (focus (first | exact fun _ => S | (intro _; refine S.sub (subL HL0 HL ?_); (repeat (first | exact List.Sublist.refl _ | apply List.Sublist.cons)); done) | (refine sink_no ?_; kernel_rfl))); clear hK K; (try simp only [Act.put, List.setIfInBounds_toArray, List.set_cons_zero, List.set_cons_succ]))))
      refine tree_fin ?_
      go_wp2
      go_roundw
      case rel => exact ⟨k + 1, by omega, by go_num, S⟩
      case measure => simp [intOf]; omega
    · obtain rfl : k = n := by omega
      go_wp2
      go_ret
      exact ⟨rfl, S.below⟩
end Go.Proofs.Ytdgeiooacghcoaa
