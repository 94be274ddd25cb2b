/-
  Contracts on slices of ints: copies, comparisons, marks, and the functions on views.
-/
import Derived.Test.YtdgeiooacghcoaaRing
namespace Go.Proofs.Ytdgeiooacghcoaa
set_option linter.unusedSimpArgs false
set_option linter.unusedVariables false
set_option linter.unusedSectionVars false
open Go Go.RowKit
set_option maxHeartbeats 1000000

theorem infoInt : (Try.prog.info? 3).map (fun i => (i.zero, i.size, i.bytes)) = some (some (.int .i64 0), 1, 8) := by kernel_rfl

theorem Sees.ints {w : World} {v : Value} {n : Nat} {xs : List Int} (h : Sees w 1 v n (ints xs)) : Ints w v xs := by
  have h1 : xs.length = n := by have := h.1; rw [ints_length] at this; omega
  unfold Ints
  rw [h1]
  exact h
/-- A new row of ints is handed back. -/
def MakesInts (w0 : World) (xs : List Int) (e : Ending) (w : World) : Prop := ∃ u, e = .returned u ∧ St w0 w [.row 3 1 u xs.length (ints xs)]

def filled (xs : List Int) (n k : Nat) : List Value := ints (xs.take k) ++ List.replicate (n - k) (.int .i64 0)
theorem filled_zero (xs : List Int) (n : Nat) : filled xs n 0 = List.replicate n (.int .i64 0) := by simp [filled, ints]
theorem filled_set (xs : List Int) (n k : Nat) (h : k < n) (hx : xs.length = n) : (filled xs n k).set k (.int .i64 (xs.getD k 0)) = filled xs n (k + 1) := by
  unfold filled
  have e1 : (ints (xs.take k)).length = k := by simp [ints]; omega
  rw [List.set_append_right _ _ (by omega), e1, Nat.sub_self]
  have e2 : n - k = (n - (k + 1)) + 1 := by omega
  have e3 : xs.getD k 0 = xs[k]'(by omega) := by simp [show k < xs.length by omega]
  rw [e2, List.replicate_succ, List.set_cons_zero, List.take_succ_eq_append_getElem (by omega), e3, ints_append]
  simp [ints]
theorem filled_full (xs : List Int) (n : Nat) (hx : xs.length = n) : filled xs n n = ints xs := by simp [filled, ints, ← hx]
theorem C_toIntS (v : Value) (xs : List Int) (w0 : World) (h : Ints w0 v xs) (hn : xs.length ≤ 1048576) :
    Calls Try.prog 42 #[v] w0 (MakesInts w0 xs) := by
  obtain ⟨hl, A, cap, rfl, hcap, hmax, hA⟩ := h
  obtain ⟨n, hx⟩ : ∃ n, xs.length = n := ⟨_, rfl⟩
  rw [hx] at hcap hA hn ⊢
  have HX := Lib.hid hx
  have HA := Lib.hid hA
  clear hl hA hx
  obtain ⟨L, HL, S⟩ := st_start w0; have F : True := trivial
  go_enter Try.func42, Try.ntmps42
  go_wp2_with (at_make; refine wpList_make rfl S _ _ _ rfl 3 _ 1 8 Try.underlying23 infoInt _ n rfl rfl rfl (by omega) (by simp only [maxLen]; omega) ?_; intro g w L hM T; clear F S; (try rw [HL.out] at hM); clear HL; (try simp [Act.put, Act.eval, Value.cells, splice] at hM); have HL := Lib.hid hM; clear hM; have S := T; clear T; have F := factsAll HL S; (try simp only [factsOf, cellsFrom, and_true, true_and, Nat.reduceAdd] at F))
  go_loopw [4] (fun i wr => ∃ (k : Nat) (L : List Ent), k ≤ n ∧ i = .int .i64 k ∧ Hid (L = [.row 3 1 (.slice (some ⟨g, 0, none⟩) n n) n (filled xs n k)]) ∧ St w0 wr L) (fun i _ => n - (intOf i).toNat)
  case atStart => exact ⟨0, L, Nat.zero_le _, rfl, (by rw [filled_zero, ← toList_madeCells_one]; exact HL), S⟩
  case round =>
    clear F HL S
    obtain ⟨k, L, hk, rfl, HL, S⟩ := hrel
    have F : True := trivial
    by_cases hlt : k < n
    · obtain ⟨b, off, rfl, hb, hc⟩ := HA.out (by omega)
      have c := (S.below.cell (p := ⟨b, off + k, none⟩) hb).trans (hc k _ (ints_getD xs k (by rw [HX.out]; exact hlt)))
      clear hc
      go_wp2_with (refine wpList_store_row rfl S _ _ _ rfl 0 _ _ _ _ _ _ _ (atOf HL rfl) rfl _ rfl (by kernel_rfl) rfl (by omega) ?_; intro w L hM T; clear F S; (try rw [HL.out] at hM); clear HL; (try simp [Act.put, Act.eval, Value.cells, splice] at hM); have HL := Lib.hid hM; clear hM; have S := T; clear T; have F := factsAll HL S; (try simp only [factsOf, cellsFrom, and_true, true_and, Nat.reduceAdd] at F))
      go_roundw
      case rel => exact ⟨k + 1, L, by omega, by go_num, by rw [← filled_set xs n k hlt HX.out]; exact HL, S⟩
      case measure => simp [intOf]; omega
    · obtain rfl : k = n := by omega
      go_wp2
      go_ret
      rw [HL.out, filled_full xs _ HX.out] at S
      exact ⟨_, rfl, by rw [HX.out]; exact S⟩
theorem C_eqIntS (u v : Value) (xs : List Int) (w0 : World) (hu : Ints w0 u xs) (hv : Ints w0 v xs) :
    Calls Try.prog 45 #[u, v] w0 fun e w' => e = .returned (.bool true) ∧ Below w0.heap.size w0 w' := by
  obtain ⟨_, A, cap, rfl, hcap, hmax, hA⟩ := hu
  obtain ⟨_, B, cap', rfl, hcap', hmax', hB⟩ := hv
  obtain ⟨n, hx⟩ : ∃ n, xs.length = n := ⟨_, rfl⟩
  rw [hx] at hcap hcap' hA hB ⊢
  have HX := Lib.hid hx
  have HA := Lib.hid hA
  have HB := Lib.hid hB
  clear hA hB hx
  unfold maxLen at hmax hmax'
  obtain ⟨L, HL, S⟩ := st_start w0; have F : True := trivial
  go_enter Try.func45, Try.ntmps45
  go_wp2
  go_loopw [5] (fun i wr => ∃ (k : Nat), k ≤ n ∧ i = .int .i64 k ∧ St w0 wr L) (fun i _ => n - (intOf i).toNat)
  case atStart => exact ⟨0, Nat.zero_le _, rfl, S⟩
  case round =>
    clear S
    obtain ⟨k, hk, rfl, S⟩ := hrel
    by_cases hlt : k < n
    · obtain ⟨b, off, rfl, hb, hc⟩ := HA.out (by omega)
      obtain ⟨b', off', rfl, hb', hc'⟩ := HB.out (by omega)
      have c1 := fun w' (S' : St w0 w' L) => (S'.below.cell (p := ⟨b, off + k, none⟩) hb).trans (hc k _ (ints_getD xs k (by rw [HX.out]; exact hlt)))
      have c2 := fun w' (S' : St w0 w' L) => (S'.below.cell (p := ⟨b', off' + k, none⟩) hb').trans (hc' k _ (ints_getD xs k (by rw [HX.out]; exact hlt)))
      clear hc hc'
      go_wp2_with fail
      have HL0 := HL; have F0 := F; refine wp_region_tree (S := fun w' => St w0 w' L) (.calm 0 (.calm 1 (.calm 2 (.calm 3 (.calm 4 (.calm 5 (.calm 6 (.calm 7 (.calm 8 .fin))))))))) (by kernel_rfl) (by kernel_rfl) (by kernel_rfl) (by intro c a d v w h; cases d <;> exact h) ?_; replace S := S.drew
      repeat (first | (first | (refine tree_calm (v := ?_) ?_ rfl (by decide +kernel) rfl ?_ ?_; rotate_left; (focus (first | exact S | (refine S.sub (subL HL0 HL ?_); (repeat (first | exact List.Sublist.refl _ | apply List.Sublist.cons)); done))); (focus (intro w' hS'; (try dsimp only at hS'); go_simp; try rfl)); (try simp only [Act.put, List.setIfInBounds_toArray, List.set_cons_zero, List.set_cons_succ])) | (refine tree_any (v := ?_) ?_ rfl rfl ?_ ?_; rotate_left; (focus (first | exact S | (refine S.sub (subL HL0 HL ?_); (repeat (first | exact List.Sublist.refl _ | apply List.Sublist.cons)); done))); (focus (intro w'; go_simp; try rfl)); (try simp only [Act.put, List.setIfInBounds_toArray, List.set_cons_zero, List.set_cons_succ]))) | (refine tree_skip ?_ rfl rfl ?_; (focus (first | exact S | (refine S.sub (subL HL0 HL ?_); (repeat (first | exact List.Sublist.refl _ | apply List.Sublist.cons)); done))); (try simp only [Act.put, List.setIfInBounds_toArray, List.set_cons_zero, List.set_cons_succ])) | (refine tree_act rfl rfl ?_ tree_stop; intro K hK; go_wp2_with (first | fail); (refine hK.out _ _ ?_ ?_; (focus (first | exact fun _ => S | (intro _; refine S.sub (subL HL0 HL ?_); (repeat (first | exact List.Sublist.refl _ | apply List.Sublist.cons)); done) | (refine sink_no ?_; kernel_rfl))); clear hK K; (try simp only [Act.put, List.setIfInBounds_toArray, List.set_cons_zero, List.set_cons_succ]))))
      refine tree_fin ?_
      go_wp2
      go_roundw
      case rel => exact ⟨k + 1, by omega, by go_num, S⟩
      case measure => simp [intOf]; omega
    · obtain rfl : k = n := by omega
      go_wp2
      go_ret
      exact ⟨rfl, S.below⟩
theorem C_impl_FairViews (v : Value) (xs : List Int) (w0 : World) (h : Ints w0 v xs) :
    Calls Try.prog 19 #[v] w0 fun e w' => e = .returned (.bool (fair xs)) ∧ w0 = w' := by
  obtain ⟨hl, A, cap, rfl, hcap, hmax, hA⟩ := h
  obtain ⟨n, hx⟩ : ∃ n, xs.length = n := ⟨_, rfl⟩
  rw [hx] at hcap hA ⊢
  have HX := Lib.hid hx
  have HA := Lib.hid hA
  clear hl hA
  unfold maxLen at hmax
  by_cases h96 : n = 4096
  · have hne : ((n : Int) != 4096) = false := by rw [h96]; rfl
    have H96 := Lib.hid h96
    clear hx h96
    go_enter Try.func19, Try.ntmps19
    go_wp2
    go_loop [10] (fun i => ∃ (k : Nat), k ≤ n ∧ i = .int .i64 k ∧ Hid (∀ j, j < k → xs.getD j 0 = 1)) (fun i => n - (intOf i).toNat)
    case atStart => exact ⟨0, Nat.zero_le _, rfl, fun j hj => absurd hj (by omega)⟩
    case round =>
      obtain ⟨k, hk, rfl, hall⟩ := hrel
      by_cases hlt : k < n
      · obtain ⟨b, off, rfl, hb, hc⟩ := HA.out (by omega)
        have c1 := hc k _ (ints_getD xs k (by rw [HX.out]; exact hlt))
        clear hc
        by_cases hone : xs.getD k 0 = 1
        · rw [hone] at c1
          have Hone := Lib.hid hone
          clear hone
          go_wp2
          go_round
          case rel =>
            refine ⟨k + 1, by omega, by go_num, fun j hj => ?_⟩
            rcases Nat.lt_or_ge j k with h | h
            · exact hall.out j h
            · obtain rfl : j = k := by omega
              exact Hone.out
          case measure => simp [intOf]; omega
        · obtain ⟨y, hy⟩ : ∃ y, xs.getD k 0 = y := ⟨_, rfl⟩
          rw [hy] at c1 hone
          have HY := Lib.hid hy
          clear hy
          have hone' : (y != 1) = true := by simpa using hone
          go_wp2
          go_ret
          refine ⟨?_, rfl⟩
          have : fair xs = false := by
            unfold fair
            simp only [Bool.and_eq_false_iff]
            right
            rw [List.all_eq_false]
            refine ⟨xs.getD k 0, ?_, by rw [HY.out]; simpa using hone⟩
            have hk' : k < xs.length := by rw [HX.out]; exact hlt
            rw [List.getD_eq_getElem?_getD, List.getElem?_eq_getElem hk']
            exact List.getElem_mem hk'
          rw [this]
          rfl
      · obtain rfl : k = n := by omega
        go_wp2
        go_ret
        refine ⟨?_, rfl⟩
        have : fair xs = true := by
          unfold fair
          rw [HX.out, H96.out]
          simp only [decide_true, Bool.true_and, List.all_eq_true]
          intro x hx
          obtain ⟨j, hj, rfl⟩ := List.mem_iff_getElem.1 hx
          have := hall.out j (by rw [← HX.out]; exact hj)
          rw [List.getD_eq_getElem?_getD, List.getElem?_eq_getElem hj] at this
          simpa using this
        rw [this]
        rfl
  · have hne : ((n : Int) != 4096) = true := by rw [bne_iff_ne]; omega
    have hf : fair xs = false := by
      unfold fair
      rw [hx]
      simp [h96]
    rw [hf]
    clear hf hx h96
    go_enter Try.func19, Try.ntmps19
    go_wp2
    go_ret
    exact ⟨rfl, rfl⟩
theorem C_spec_FairViews (v : Value) (xs : List Int) (w0 : World) (h : Ints w0 v xs) :
    Calls Try.prog 20 #[v] w0 fun e w' => e = .returned (.bool (fair xs)) ∧ w0 = w' := by
  obtain ⟨hl, A, cap, rfl, hcap, hmax, hA⟩ := h
  obtain ⟨n, hx⟩ : ∃ n, xs.length = n := ⟨_, rfl⟩
  rw [hx] at hcap hA ⊢
  have HX := Lib.hid hx
  have HA := Lib.hid hA
  clear hl hA hx
  unfold maxLen at hmax
  go_enter Try.func20, Try.ntmps20
  go_wp2
  go_loop [3] (fun i => ∃ (k : Nat), k ≤ n ∧ i = .int .i64 k ∧ Hid (∀ j, j < k → xs.getD j 0 = 1)) (fun i => n - (intOf i).toNat)
  case atStart => exact ⟨0, Nat.zero_le _, rfl, fun j hj => absurd hj (by omega)⟩
  case round =>
    obtain ⟨k, hk, rfl, hall⟩ := hrel
    by_cases hlt : k < n
    · obtain ⟨b, off, rfl, hb, hc⟩ := HA.out (by omega)
      have c1 := hc k _ (ints_getD xs k (by rw [HX.out]; exact hlt))
      clear hc
      by_cases hone : xs.getD k 0 = 1
      · rw [hone] at c1
        have Hone := Lib.hid hone
        clear hone
        go_wp2
        go_round
        case rel =>
          refine ⟨k + 1, by omega, by go_num, fun j hj => ?_⟩
          rcases Nat.lt_or_ge j k with h | h
          · exact hall.out j h
          · obtain rfl : j = k := by omega
            exact Hone.out
        case measure => simp [intOf]; omega
      · obtain ⟨y, hy⟩ : ∃ y, xs.getD k 0 = y := ⟨_, rfl⟩
        rw [hy] at c1 hone
        have HY := Lib.hid hy
        clear hy
        have hone' : (y != 1) = true := by simpa using hone
        go_wp2
        go_ret
        refine ⟨?_, rfl⟩
        have : fair xs = false := by
          unfold fair
          simp only [Bool.and_eq_false_iff]
          right
          rw [List.all_eq_false]
          refine ⟨xs.getD k 0, ?_, by rw [HY.out]; simpa using hone⟩
          have hk' : k < xs.length := by rw [HX.out]; exact hlt
          rw [List.getD_eq_getElem?_getD, List.getElem?_eq_getElem hk']
          exact List.getElem_mem hk'
        rw [this]
        rfl
    · obtain rfl : k = n := by omega
      go_wp2
      go_ret
      refine ⟨?_, rfl⟩
      have : fair xs = ((k : Int) == 4096) := by
        unfold fair
        rw [HX.out]
        have h1 : xs.all (fun x => decide (x = 1)) = true := by
          rw [List.all_eq_true]
          intro x hx
          obtain ⟨j, hj, rfl⟩ := List.mem_iff_getElem.1 hx
          have := hall.out j (by rw [← HX.out]; exact hj)
          rw [List.getD_eq_getElem?_getD, List.getElem?_eq_getElem hj] at this
          simpa using this
        rw [h1, Bool.and_true, Bool.eq_iff_iff]
        simp
        omega
      rw [this]
      rfl
def marks (n : Nat) (k : Int) : List Int := tab n fun i => k + i
theorem St.rowShape {w0 w : World} {L : List Ent} {p size n : Nat} {t : TypeId} {v : Value} {xs : List Value} (S : St w0 w L) (h : At L p (.row t size v n xs)) :
    (v = .slice none 0 0 ∧ n = 0) ∨ ∃ g cap, v = .slice (some ⟨g, 0, none⟩) n cap ∧ n ≤ cap ∧ cap ≤ maxLen := by
  obtain ⟨h1, h2⟩ := S.own _ h.mem
  rcases h2 with ⟨rfl, rfl⟩ | ⟨g, cap, cur, rfl, hb, hg, hn, hm, hcs, htake⟩
  · exact .inl ⟨rfl, rfl⟩
  · exact .inr ⟨g, cap, rfl, hn, hm⟩
theorem At.set {L : List Ent} {p : Nat} {e e' : Ent} (h : At L p e) : At (L.set p e') p e' := by
  have := (List.getElem?_eq_some_iff.1 h.get).1
  exact by unfold At; rw [List.getElem?_set_self this]
theorem marks_set (xs : List Int) (n i : Nat) (k : Int) (hx : xs.length = n) (hi : i < n) :
    (ints (tab i (fun j => k + j) ++ xs.drop i)).set i (.int .i64 (k + i)) = ints (tab (i + 1) (fun j => k + j) ++ xs.drop (i + 1)) := by
  rw [← ints_set, List.set_append_right _ _ (by rw [tab_length]; omega), tab_length, Nat.sub_self]
  congr 1
  have e : xs.drop i = xs[i] :: xs.drop (i + 1) := by rw [List.drop_eq_getElem_cons (by omega)]
  rw [e, List.set_cons_zero]
  simp [tab, List.range_succ]
end Go.Proofs.Ytdgeiooacghcoaa
