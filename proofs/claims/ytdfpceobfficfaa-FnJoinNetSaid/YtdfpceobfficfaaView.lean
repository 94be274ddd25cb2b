/-
  Contracts on slices of ints: copies, comparisons, marks, and the functions on views.
-/
import Derived.Test.YtdfpceobfficfaaRing
namespace Go.Proofs.Ytdfpceobfficfaa
set_option linter.unusedSimpArgs false
set_option linter.unusedVariables false
set_option linter.unusedSectionVars false
open Go Go.RowKit
set_option maxHeartbeats 1000000

theorem infoInt : (Try.prog.info? 3).map (fun i => (i.zero, i.size, i.bytes)) = some (some (.int .i64 0), 1, 8) := by kernel_rfl

theorem Sees.ints {w : World} {v : Value} {n : Nat} {xs : List Int} (h : Sees w 1 v n (ints xs)) : Ints w v xs := by
  have h1 : xs.length = n := by have := h.1; rw [ints_length] at this; omega
  unfold Ints
  rw [h1]
  exact h
/-- A new row of ints is handed back. -/
def MakesInts (w0 : World) (xs : List Int) (e : Ending) (w : World) : Prop := ∃ u, e = .returned u ∧ St w0 w [.row 3 1 u xs.length (ints xs)]

def filled (xs : List Int) (n k : Nat) : List Value := ints (xs.take k) ++ List.replicate (n - k) (.int .i64 0)
theorem filled_zero (xs : List Int) (n : Nat) : filled xs n 0 = List.replicate n (.int .i64 0) := by simp [filled, ints]
theorem filled_set (xs : List Int) (n k : Nat) (h : k < n) (hx : xs.length = n) : (filled xs n k).set k (.int .i64 (xs.getD k 0)) = filled xs n (k + 1) := by
  unfold filled
  have e1 : (ints (xs.take k)).length = k := by simp [ints]; omega
  rw [List.set_append_right _ _ (by omega), e1, Nat.sub_self]
  have e2 : n - k = (n - (k + 1)) + 1 := by omega
  have e3 : xs.getD k 0 = xs[k]'(by omega) := by simp [show k < xs.length by omega]
  rw [e2, List.replicate_succ, List.set_cons_zero, List.take_succ_eq_append_getElem (by omega), e3, ints_append]
  simp [ints]
theorem filled_full (xs : List Int) (n : Nat) (hx : xs.length = n) : filled xs n n = ints xs := by simp [filled, ints, ← hx]
theorem C_toIntS (v : Value) (xs : List Int) (w0 : World) (h : Ints w0 v xs) (hn : xs.length ≤ 1048576) :
    Calls Try.prog 132 #[v] w0 (MakesInts w0 xs) := by
  obtain ⟨hl, A, cap, rfl, hcap, hmax, hA⟩ := h
  obtain ⟨n, hx⟩ : ∃ n, xs.length = n := ⟨_, rfl⟩
  rw [hx] at hcap hA hn ⊢
  have HX := Lib.hid hx
  have HA := Lib.hid hA
  clear hl hA hx
  obtain ⟨L, HL, S⟩ := st_start w0; have F : True := trivial
  go_enter Try.func132, Try.ntmps132
  go_wp2_with (at_make; refine wpList_make rfl S _ _ _ rfl 3 _ 1 8 Try.underlying53 infoInt _ n rfl rfl rfl (by omega) (by simp only [maxLen]; omega) ?_; intro g w L hM T; clear F S; (try rw [HL.out] at hM); clear HL; (try simp [Act.put, Act.eval, Value.cells, splice] at hM); have HL := Lib.hid hM; clear hM; have S := T; clear T; have F := factsAll HL S; (try simp only [factsOf, cellsFrom, and_true, true_and, Nat.reduceAdd] at F))
  go_loopw [4] (fun i wr => ∃ (k : Nat) (L : List Ent), k ≤ n ∧ i = .int .i64 k ∧ Hid (L = [.row 3 1 (.slice (some ⟨g, 0, none⟩) n n) n (filled xs n k)]) ∧ St w0 wr L) (fun i _ => n - (intOf i).toNat)
  case atStart => exact ⟨0, L, Nat.zero_le _, rfl, (by rw [filled_zero, ← toList_madeCells_one]; exact HL), S⟩
  case round =>
    clear F HL S
    obtain ⟨k, L, hk, rfl, HL, S⟩ := hrel
    have F : True := trivial
    by_cases hlt : k < n
    · obtain ⟨b, off, rfl, hb, hc⟩ := HA.out (by omega)
      have c := (S.below.cell (p := ⟨b, off + k, none⟩) hb).trans (hc k _ (ints_getD xs k (by rw [HX.out]; exact hlt)))
      clear hc
      go_wp2_with (refine wpList_store_row rfl S _ _ _ rfl 0 _ _ _ _ _ _ _ (atOf HL rfl) rfl _ rfl (by kernel_rfl) rfl (by omega) ?_; intro w L hM T; clear F S; (try rw [HL.out] at hM); clear HL; (try simp [Act.put, Act.eval, Value.cells, splice] at hM); have HL := Lib.hid hM; clear hM; have S := T; clear T; have F := factsAll HL S; (try simp only [factsOf, cellsFrom, and_true, true_and, Nat.reduceAdd] at F))
      go_roundw
      case rel => exact ⟨k + 1, L, by omega, by go_num, by rw [← filled_set xs n k hlt HX.out]; exact HL, S⟩
      case measure => simp [intOf]; omega
    · obtain rfl : k = n := by omega
      go_wp2
      go_ret
      rw [HL.out, filled_full xs _ HX.out] at S
      exact ⟨_, rfl, by rw [HX.out]; exact S⟩
theorem C_eqIntS (u v : Value) (xs : List Int) (w0 : World) (hu : Ints w0 u xs) (hv : Ints w0 v xs) :
    Calls Try.prog 130 #[u, v] w0 fun e w' => e = .returned (.bool true) ∧ Below w0.heap.size w0 w' := by
  obtain ⟨_, A, cap, rfl, hcap, hmax, hA⟩ := hu
  obtain ⟨_, B, cap', rfl, hcap', hmax', hB⟩ := hv
  obtain ⟨n, hx⟩ : ∃ n, xs.length = n := ⟨_, rfl⟩
  rw [hx] at hcap hcap' hA hB ⊢
  have HX := Lib.hid hx
  have HA := Lib.hid hA
  have HB := Lib.hid hB
  clear hA hB hx
  unfold maxLen at hmax hmax'
  obtain ⟨L, HL, S⟩ := st_start w0; have F : True := trivial
  go_enter Try.func130, Try.ntmps130
  go_wp2
  go_loopw [5] (fun i wr => ∃ (k : Nat), k ≤ n ∧ i = .int .i64 k ∧ St w0 wr L) (fun i _ => n - (intOf i).toNat)
  case atStart => exact ⟨0, Nat.zero_le _, rfl, S⟩
  case round =>
    clear S
    obtain ⟨k, hk, rfl, S⟩ := hrel
    by_cases hlt : k < n
    · obtain ⟨b, off, rfl, hb, hc⟩ := HA.out (by omega)
      obtain ⟨b', off', rfl, hb', hc'⟩ := HB.out (by omega)
      have c1 := fun w' (S' : St w0 w' L) => (S'.below.cell (p := ⟨b, off + k, none⟩) hb).trans (hc k _ (ints_getD xs k (by rw [HX.out]; exact hlt)))
      have c2 := fun w' (S' : St w0 w' L) => (S'.below.cell (p := ⟨b', off' + k, none⟩) hb').trans (hc' k _ (ints_getD xs k (by rw [HX.out]; exact hlt)))
      clear hc hc'
      go_wp2_with fail
      have HL0 := HL; have F0 := F; refine wp_region_tree (S := fun w' => St w0 w' L) (.calm 0 (.calm 1 (.calm 2 (.calm 3 (.calm 4 (.calm 5 (.calm 6 (.calm 7 (.calm 8 .fin))))))))) (by kernel_rfl) (by kernel_rfl) (by kernel_rfl) (by intro c a d v w h; cases d <;> exact h) ?_; replace S := S.drew
      repeat (first | (first | (refine tree_calm (v := ?_) ?_ rfl (by decide +kernel) rfl ?_ ?_; rotate_left; (focus (first | exact S | (refine S.sub (subL HL0 HL ?_); (repeat (first | exact List.Sublist.refl _ | apply List.Sublist.cons)); done))); (focus (intro w' hS'; (try dsimp only at hS'); go_simp; try rfl)); (try simp only [Act.put, List.setIfInBounds_toArray, List.set_cons_zero, List.set_cons_succ])) | (refine tree_any (v := ?_) ?_ rfl rfl ?_ ?_; rotate_left; (focus (first | exact S | (refine S.sub (subL HL0 HL ?_); (repeat (first | exact List.Sublist.refl _ | apply List.Sublist.cons)); done))); (focus (intro w'; go_simp; try rfl)); (try simp only [Act.put, List.setIfInBounds_toArray, List.set_cons_zero, List.set_cons_succ]))) | (refine tree_skip ?_ rfl rfl ?_; (focus (first | exact S | (refine S.sub (subL HL0 HL ?_); (repeat (first | exact List.Sublist.refl _ | apply List.Sublist.cons)); done))); (try simp only [Act.put, List.setIfInBounds_toArray, List.set_cons_zero, List.set_cons_succ])) | (refine tree_act rfl rfl ?_ tree_stop; intro K hK; go_wp2_with (first | fail); (refine hK.out _ _ ?_ ?_; (focus (first | exact fun _ => S | (intro _; refine S.sub (subL HL0 HL ?_); (repeat (first | exact List.Sublist.refl _ | apply List.Sublist.cons)); done) | (refine sink_no ?_; kernel_rfl))); clear hK K; (try simp only [Act.put, List.setIfInBounds_toArray, List.set_cons_zero, List.set_cons_succ]))))
      refine tree_fin ?_
      go_wp2
      go_roundw
      case rel => exact ⟨k + 1, by omega, by go_num, S⟩
      case measure => simp [intOf]; omega
    · obtain rfl : k = n := by omega
      go_wp2
      go_ret
      exact ⟨rfl, S.below⟩
def marks (n : Nat) (k : Int) : List Int := tab n fun i => k + i
theorem St.rowShape {w0 w : World} {L : List Ent} {p size n : Nat} {t : TypeId} {v : Value} {xs : List Value} (S : St w0 w L) (h : At L p (.row t size v n xs)) :
    (v = .slice none 0 0 ∧ n = 0) ∨ ∃ g cap, v = .slice (some ⟨g, 0, none⟩) n cap ∧ n ≤ cap ∧ cap ≤ maxLen := by
  obtain ⟨h1, h2⟩ := S.own _ h.mem
  rcases h2 with ⟨rfl, rfl⟩ | ⟨g, cap, cur, rfl, hb, hg, hn, hm, hcs, htake⟩
  · exact .inl ⟨rfl, rfl⟩
  · exact .inr ⟨g, cap, rfl, hn, hm⟩
theorem At.set {L : List Ent} {p : Nat} {e e' : Ent} (h : At L p e) : At (L.set p e') p e' := by
  have := (List.getElem?_eq_some_iff.1 h.get).1
  exact by unfold At; rw [List.getElem?_set_self this]
theorem marks_set (xs : List Int) (n i : Nat) (k : Int) (hx : xs.length = n) (hi : i < n) :
    (ints (tab i (fun j => k + j) ++ xs.drop i)).set i (.int .i64 (k + i)) = ints (tab (i + 1) (fun j => k + j) ++ xs.drop (i + 1)) := by
  rw [← ints_set, List.set_append_right _ _ (by rw [tab_length]; omega), tab_length, Nat.sub_self]
  congr 1
  have e : xs.drop i = xs[i] :: xs.drop (i + 1) := by rw [List.drop_eq_getElem_cons (by omega)]
  rw [e, List.set_cons_zero]
  simp [tab, List.range_succ]
theorem C_markIntS (L : List Ent) (p n : Nat) (v : Value) (xs : List Int) (k : Int) (w0 w1 : World) (S : St w0 w1 L) (h : At L p (.row 3 1 v n (ints xs))) (hk : 0 ≤ k ∧ k ≤ 1000000000) (hn : n ≤ 1000000000) :
    Calls Try.prog 90 #[v, .int .i64 k] w1 fun e w' => e = .returned (.int .i64 (k + n)) ∧ St w0 w' (L.set p (.row 3 1 v n (ints (marks n k)))) := by
  have hx : xs.length = n := by have := (Sees.row S h).1; rw [ints_length] at this; omega
  obtain ⟨k1, k2⟩ := hk
  rcases S.rowShape h with ⟨rfl, rfl⟩ | ⟨g, cap, rfl, hcap, hmax⟩
  · obtain rfl : xs = [] := List.length_eq_zero_iff.1 hx
    have e : L.set p (.row 3 1 (.slice none 0 0) 0 (ints (marks 0 k))) = L := by
      obtain ⟨h1, h2⟩ := List.getElem?_eq_some_iff.1 h.get
      rw [show ints (marks 0 k) = ints [] from rfl, ← h2, List.set_getElem_self]
    rw [e]
    have S0 := Lib.hid S
    clear S h e hx
    go_enter Try.func90, Try.ntmps90
    go_wp2
    go_loopw [5, 1] (fun i k' wr => i = .int .i64 0 ∧ k' = .int .i64 k ∧ wr = w1) (fun i _ _ => 0)
    case atStart => exact ⟨rfl, rfl, rfl⟩
    case round =>
      obtain ⟨rfl, rfl, rfl⟩ := hrel
      go_wp2
      go_ret
      exact ⟨by simp, S0.out⟩
  · have HX := Lib.hid hx
    unfold maxLen at hmax
    clear hx
    have S0 := Lib.hid S
    clear S
    go_enter Try.func90, Try.ntmps90
    go_wp2
    go_loopw [5, 1] (fun i k' wr => ∃ (j : Nat) (M : List Ent), j ≤ n ∧ i = .int .i64 j ∧ k' = .int .i64 (k + j) ∧ Hid (M = L.set p (.row 3 1 (.slice (some ⟨g, 0, none⟩) n cap) n (ints (tab j (fun q => k + q) ++ xs.drop j)))) ∧ St w0 wr M) (fun i _ _ => n - (intOf i).toNat)
    case atStart =>
      refine ⟨0, L, Nat.zero_le _, rfl, by simp, Lib.hid ?_, S0.out⟩
      obtain ⟨h1, h2⟩ := List.getElem?_eq_some_iff.1 h.get
      rw [show (tab 0 (fun q => k + (q : Int)) ++ xs.drop 0) = xs by simp [tab], ← h2, List.set_getElem_self]
    case round =>
      obtain ⟨j, M, hj, rfl, rfl, HM, S⟩ := hrel
      by_cases hlt : j < n
      · have hat : At M p (.row 3 1 (.slice (some ⟨g, 0, none⟩) n cap) n (ints (tab j (fun q => k + q) ++ xs.drop j))) := by rw [HM.out]; exact h.set
        go_wp2_with (refine wpList_store_row rfl S _ _ _ rfl p _ _ _ _ _ _ _ hat rfl (.int .i64 (k + j)) rfl (by kernel_rfl) rfl (by omega) ?_; intro w M' hM' T)
        go_roundw
        case rel =>
          refine ⟨j + 1, M', by omega, by go_num, by go_num, Lib.hid ?_, T⟩
          rw [hM', HM.out, List.set_set, marks_set xs n j k HX.out hlt]
        case measure => simp [intOf]; omega
      · obtain rfl : j = n := by omega
        go_wp2
        go_ret
        refine ⟨rfl, ?_⟩
        have e : tab j (fun q => k + (q : Int)) ++ xs.drop j = marks j k := by
          rw [List.drop_eq_nil_of_le (Nat.le_of_eq HX.out), List.append_nil]; rfl
        rw [HM.out, e] at S
        exact S
theorem C_heldIntS (n : Nat) (v : Value) (k : Int) (w0 : World) (h : Sees w0 1 v n (ints (marks n k))) (hk : 0 ≤ k ∧ k ≤ 1000000000) (hn : n ≤ 1000000000) :
    Calls Try.prog 91 #[v, .int .i64 k] w0 fun e w' => e = .returned (.int .i64 (k + n)) ∧ w0 = w' := by
  obtain ⟨k1, k2⟩ := hk
  obtain ⟨hl, A, cap, rfl, hcap, hmax, hA⟩ := h
  have HA := Lib.hid hA
  clear hl hA
  unfold maxLen at hmax
  go_enter Try.func91, Try.ntmps91
  go_wp2
  go_loop [5, 1] (fun i k' => ∃ (j : Nat), j ≤ n ∧ i = .int .i64 j ∧ k' = .int .i64 (k + j)) (fun i _ => n - (intOf i).toNat)
  case atStart => exact ⟨0, Nat.zero_le _, rfl, by simp⟩
  case round =>
    obtain ⟨j, hj, rfl, rfl⟩ := hrel
    by_cases hlt : j < n
    · obtain ⟨b, off, rfl, hb, hc⟩ := HA.out (by omega)
      have c1 := hc j _ (by rw [ints_getD _ _ (by rw [marks, tab_length]; exact hlt), marks, tab_getD _ _ _ hlt])
      clear hc
      go_wp2
      go_round
      case rel => exact ⟨j + 1, by omega, by go_num, by go_num⟩
      case measure => simp [intOf]; omega
    · obtain rfl : j = n := by omega
      go_wp2
      go_ret
      exact ⟨rfl, rfl⟩
end Go.Proofs.Ytdfpceobfficfaa
