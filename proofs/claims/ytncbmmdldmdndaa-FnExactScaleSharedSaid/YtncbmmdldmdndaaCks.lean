/-
  Contracts on lists of checked numbers: copies and comparisons.
-/
import Derived.Test.YtncbmmdldmdndaaRow
import Derived.Test.YtncbmmdldmdndaaCheck
namespace Go.Proofs.Ytncbmmdldmdndaa
set_option linter.unusedSimpArgs false
set_option linter.unusedVariables false
set_option linter.unusedSectionVars false
open Go Go.RowKit
set_option maxHeartbeats 8000000
set_option maxRecDepth 20000
theorem infoCk : (Try.prog.info? 107).map (fun i => (i.zero, i.size, i.bytes)) = some (some (.agg #[.int .i64 0, .int .i64 0, .int .i64 0, .int .i64 0]), 4, 32) := by kernel_rfl
def ckAt (zs : List Int) (k : Nat) : Ck := ⟨⟨zs.getD (k * 4) 0, zs.getD (k * 4 + 1) 0⟩, ⟨zs.getD (k * 4 + 2) 0, zs.getD (k * 4 + 3) 0⟩⟩
theorem C_szCheckedS (A : Option Addr) (n cap : Nat) (k : Int) (w0 : World) (hn : n ≤ cap) (hc : cap ≤ maxLen) (hk : 0 ≤ k ∧ k ≤ 1000000000) :
    Calls Try.prog 17 #[.slice A n cap, .int .i64 k] w0 fun e w' => e = .returned (.int .i64 (if k - n < 0 then -1 else k - n)) ∧ w0 = w' := by
  obtain ⟨k1, k2⟩ := hk
  unfold maxLen at hc
  by_cases h : k - n < 0
  · rw [if_pos h]
    go_enter Try.func17, Try.ntmps17
    go_wp2
    go_ret
    exact ⟨rfl, rfl⟩
  · rw [if_neg h]
    go_enter Try.func17, Try.ntmps17
    go_wp2
    go_ret
    exact ⟨rfl, rfl⟩
theorem C_toCheckedS (v : Value) (n : Nat) (zs : List Int) (w0 : World) (hx : zs.length = n * 4) (h : Sees w0 4 v n (ints zs)) (hn : n ≤ 1048576) :
    Calls Try.prog 19 #[v] w0 fun e w => ∃ u, e = .returned u ∧ St w0 w [.row 107 4 u n (ints zs)] := by
  obtain ⟨hl, A, cap, rfl, hcap, hmax, hA⟩ := h
  have HX := Lib.hid hx
  have HA := Lib.hid hA
  clear hl hA hx
  unfold maxLen at hmax
  obtain ⟨L, HL, S⟩ := st_start w0; have F : True := trivial
  go_enter Try.func19, Try.ntmps19
  go_wp2_with (at_make; refine wpList_make rfl S _ _ _ rfl 107 _ 4 32 Try.underlying25 infoCk _ n rfl rfl rfl (by omega) (by simp only [maxLen]; omega) ?_; intro g w L hM T; clear F S; (try rw [HL.out] at hM); clear HL; (try simp [Act.put, Act.eval, Value.cells, splice] at hM); have HL := Lib.hid hM; clear hM; have S := T; clear T; have F := factsAll HL S; (try simp only [factsOf, cellsFrom, and_true, true_and, Nat.reduceAdd] at F))
  obtain ⟨Z, hZ⟩ : ∃ Z, Z = (madeCells #[Value.int .i64 0, Value.int .i64 0, Value.int .i64 0, Value.int .i64 0] (n * 4)).toList := ⟨_, rfl⟩
  rw [← hZ] at HL
  have hZl : Z.length = (ints zs).length := by rw [hZ, ints_length, HX.out]; simp [madeCells]
  have HZ := Lib.hid hZl
  clear hZ hZl
  go_loopw [4] (fun i wr => ∃ (k : Nat) (L : List Ent), k ≤ n ∧ i = .int .i64 k ∧ Hid (L = [.row 107 4 (.slice (some ⟨g, 0, none⟩) n n) n (mix (ints zs) Z (k * 4))]) ∧ St w0 wr L) (fun i _ => n - (intOf i).toNat)
  case atStart => exact ⟨0, L, Nat.zero_le _, rfl, (by rw [Nat.zero_mul, mix_zero]; exact HL), S⟩
  case round =>
    clear F HL S
    obtain ⟨k, L, hk, rfl, HL, S⟩ := hrel
    have F : True := trivial
    by_cases hlt : k < n
    · obtain ⟨b, off, rfl, hb, hc⟩ := HA.out (by omega)
      have hcc : ∀ j i u, (ints zs)[j + i]? = some u → w0.cell? ⟨b, off + j + i, none⟩ = some u := fun j i u h => by rw [Nat.add_assoc]; exact hc _ _ h
      have q : k * 4 + 4 ≤ zs.length := by rw [HX.out]; omega
      have e3 := mix_step (ints zs) Z (ints [zs.getD (k * 4) 0, zs.getD (k * 4 + 1) 0, zs.getD (k * 4 + 2) 0, zs.getD (k * 4 + 3) 0]) (k * 4) HZ.out (ints_drop_take4 zs (k * 4) q) (by rw [ints_length, ints_length]; exact q)
      have c0 := (S.below.cell (p := ⟨b, off + k * 4, none⟩) hb).trans (hc (k * 4) _ (ints_getD zs (k * 4) (by omega)))
      have c1 := (S.below.cell (p := ⟨b, off + k * 4 + 1, none⟩) hb).trans (hcc (k * 4) 1 _ (ints_getD zs (k * 4 + 1) (by omega)))
      have c2 := (S.below.cell (p := ⟨b, off + k * 4 + 2, none⟩) hb).trans (hcc (k * 4) 2 _ (ints_getD zs (k * 4 + 2) (by omega)))
      have c3 := (S.below.cell (p := ⟨b, off + k * 4 + 3, none⟩) hb).trans (hcc (k * 4) 3 _ (ints_getD zs (k * 4 + 3) (by omega)))
      generalize zs.getD (k * 4) 0 = x0 at c0 e3
      generalize zs.getD (k * 4 + 1) 0 = x1 at c1 e3
      generalize zs.getD (k * 4 + 2) 0 = x2 at c2 e3
      generalize zs.getD (k * 4 + 3) 0 = x3 at c3 e3
      clear hc hcc q
      have E3 := Lib.hid e3
      clear e3
      have hk3 : k * 4 + 4 ≤ n * 4 := by omega
      go_wp2_with (first | (go_at_call 76; refine (C_toChecked _ _ _ _ _).mono ?_; rintro e w ⟨rfl, hb⟩; replace S := S.grow hb; clear hb) | (refine wpList_store_rowS rfl S _ _ _ rfl 0 _ _ _ _ _ _ _ (atOf HL rfl) rfl (ints [x0, x1, x2, x3]) rfl (by kernel_rfl) rfl (show _ + 4 ≤ _ from by omega) ?_; intro w L hM T; clear F S; (try rw [HL.out] at hM); clear HL; (try simp [Act.put, Act.eval, Value.cells] at hM); have HL := Lib.hid hM; clear hM; have S := T; clear T; have F := factsAll HL S; (try simp only [factsOf, cellsFrom, and_true, true_and, Nat.reduceAdd] at F)))
      go_roundw
      case rel => exact ⟨k + 1, L, by omega, by go_num, Lib.hid (by rw [HL.out, Nat.succ_mul]; exact congrArg (fun c => [Ent.row _ _ _ _ c]) E3.out), S⟩
      case measure => simp [intOf]; omega
    · obtain rfl : k = n := by omega
      go_wp2
      go_ret
      have e : mix (ints zs) Z (k * 4) = ints zs := by
        have := mix_full (ints zs) Z HZ.out
        rw [ints_length, HX.out] at this
        exact this
      rw [HL.out, e] at S
      exact ⟨_, rfl, S⟩
theorem C_eqCheckedS (u v : Value) (n : Nat) (zs : List Int) (w0 : World) (hx : zs.length = n * 4) (hu : Sees w0 4 u n (ints zs)) (hv : Sees w0 4 v n (ints zs)) :
    Calls Try.prog 21 #[u, v] w0 fun e w' => e = .returned (.bool true) ∧ Below w0.heap.size w0 w' := by
  obtain ⟨_, A, cap, rfl, hcap, hmax, hA⟩ := hu
  obtain ⟨_, B, cap', rfl, hcap', hmax', hB⟩ := hv
  have HX := Lib.hid hx
  have HA := Lib.hid hA
  have HB := Lib.hid hB
  clear hA hB hx
  unfold maxLen at hmax hmax'
  obtain ⟨L, HL, S⟩ := st_start w0; have F : True := trivial
  go_enter Try.func21, Try.ntmps21
  go_wp2
  go_loopw [5] (fun i wr => ∃ (k : Nat), k ≤ n ∧ i = .int .i64 k ∧ St w0 wr L) (fun i _ => n - (intOf i).toNat)
  case atStart => exact ⟨0, Nat.zero_le _, rfl, S⟩
  case round =>
    clear S
    obtain ⟨k, hk, rfl, S⟩ := hrel
    by_cases hlt : k < n
    · obtain ⟨b, off, rfl, hb, hc⟩ := HA.out (by omega)
      obtain ⟨b', off', rfl, hb', hc'⟩ := HB.out (by omega)
      have hcc : ∀ j i u, (ints zs)[j + i]? = some u → w0.cell? ⟨b, off + j + i, none⟩ = some u := fun j i u h => by rw [Nat.add_assoc]; exact hc _ _ h
      have hcc' : ∀ j i u, (ints zs)[j + i]? = some u → w0.cell? ⟨b', off' + j + i, none⟩ = some u := fun j i u h => by rw [Nat.add_assoc]; exact hc' _ _ h
      have q : k * 4 + 4 ≤ zs.length := by rw [HX.out]; omega
      have a0 := fun w' (S' : St w0 w' L) => (S'.below.cell (p := ⟨b, off + k * 4, none⟩) hb).trans (hc (k * 4) _ (ints_getD zs (k * 4) (by omega)))
      have a1 := fun w' (S' : St w0 w' L) => (S'.below.cell (p := ⟨b, off + k * 4 + 1, none⟩) hb).trans (hcc (k * 4) 1 _ (ints_getD zs (k * 4 + 1) (by omega)))
      have a2 := fun w' (S' : St w0 w' L) => (S'.below.cell (p := ⟨b, off + k * 4 + 2, none⟩) hb).trans (hcc (k * 4) 2 _ (ints_getD zs (k * 4 + 2) (by omega)))
      have a3 := fun w' (S' : St w0 w' L) => (S'.below.cell (p := ⟨b, off + k * 4 + 3, none⟩) hb).trans (hcc (k * 4) 3 _ (ints_getD zs (k * 4 + 3) (by omega)))
      have b0 := fun w' (S' : St w0 w' L) => (S'.below.cell (p := ⟨b', off' + k * 4, none⟩) hb').trans (hc' (k * 4) _ (ints_getD zs (k * 4) (by omega)))
      have b1 := fun w' (S' : St w0 w' L) => (S'.below.cell (p := ⟨b', off' + k * 4 + 1, none⟩) hb').trans (hcc' (k * 4) 1 _ (ints_getD zs (k * 4 + 1) (by omega)))
      have b2 := fun w' (S' : St w0 w' L) => (S'.below.cell (p := ⟨b', off' + k * 4 + 2, none⟩) hb').trans (hcc' (k * 4) 2 _ (ints_getD zs (k * 4 + 2) (by omega)))
      have b3 := fun w' (S' : St w0 w' L) => (S'.below.cell (p := ⟨b', off' + k * 4 + 3, none⟩) hb').trans (hcc' (k * 4) 3 _ (ints_getD zs (k * 4 + 3) (by omega)))
      generalize zs.getD (k * 4) 0 = x0 at a0 b0
      generalize zs.getD (k * 4 + 1) 0 = x1 at a1 b1
      generalize zs.getD (k * 4 + 2) 0 = x2 at a2 b2
      generalize zs.getD (k * 4 + 3) 0 = x3 at a3 b3
      clear hc hc' hcc hcc' q
      go_wp2_with fail
      have HL0 := HL; have F0 := F; refine wp_region_tree (S := fun w' => St w0 w' L) (.calm 0 (.calm 1 (.calm 2 (.calm 3 (.calm 4 (.calm 5 (.calm 6 (.calm 7 (.act 8 (.calm 9 .fin) .stop))))))))) (by kernel_rfl) (by kernel_rfl) (by kernel_rfl) (by intro c a d v w h; cases d <;> exact h) ?_; replace S := S.drew
      repeat (first | (first | (refine tree_calm (v := ?_) ?_ rfl (by decide +kernel) rfl ?_ ?_; rotate_left; (focus (first | exact S | (refine S.sub (subL HL0 HL ?_); (repeat (first | exact List.Sublist.refl _ | apply List.Sublist.cons)); done))); (focus (intro w' hS'; (try dsimp only at hS'); go_simp; try rfl)); (try simp only [Act.put, List.setIfInBounds_toArray, List.set_cons_zero, List.set_cons_succ])) | (refine tree_any (v := ?_) ?_ rfl rfl ?_ ?_; rotate_left; (focus (first | exact S | (refine S.sub (subL HL0 HL ?_); (repeat (first | exact List.Sublist.refl _ | apply List.Sublist.cons)); done))); (focus (intro w'; go_simp; try rfl)); (try simp only [Act.put, List.setIfInBounds_toArray, List.set_cons_zero, List.set_cons_succ]))) | (refine tree_skip ?_ rfl rfl ?_; (focus (first | exact S | (refine S.sub (subL HL0 HL ?_); (repeat (first | exact List.Sublist.refl _ | apply List.Sublist.cons)); done))); (try simp only [Act.put, List.setIfInBounds_toArray, List.set_cons_zero, List.set_cons_succ])) | (refine tree_act rfl rfl ?_ tree_stop; intro K hK; go_wp2_with (first | (go_at_call 82; refine (C_eqChecked _ _ _ _ _).mono ?_; rintro e w ⟨rfl, hb⟩; replace S := S.grow hb; clear hb)); (refine hK.out _ _ ?_ ?_; (focus (first | exact fun _ => S | (intro _; refine S.sub (subL HL0 HL ?_); (repeat (first | exact List.Sublist.refl _ | apply List.Sublist.cons)); done) | (refine sink_no ?_; kernel_rfl))); clear hK K; (try simp only [Act.put, List.setIfInBounds_toArray, List.set_cons_zero, List.set_cons_succ]))))
      refine tree_fin ?_
      go_wp2
      go_roundw
      case rel => exact ⟨k + 1, by omega, by go_num, S⟩
      case measure => simp [intOf]; omega
    · obtain rfl : k = n := by omega
      go_wp2
      go_ret
      exact ⟨rfl, S.below⟩
end Go.Proofs.Ytncbmmdldmdndaa
