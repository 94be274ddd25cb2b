/-
  Contracts: the laws' own marks in rows of structs.
-/
import Derived.Test.YtdgeiooacghcoaaView
namespace Go.Proofs.Ytdgeiooacghcoaa
set_option linter.unusedSimpArgs false
set_option linter.unusedVariables false
set_option linter.unusedSectionVars false
open Go Go.RowKit
set_option maxHeartbeats 8000000
set_option maxRecDepth 20000
theorem int_congr {a b : Int} (h : a = b) : Value.int .i64 a = Value.int .i64 b := by rw [h]
theorem C_heldMessageS (n : Nat) (v : Value) (k : Int) (w0 : World) (h : Sees w0 3 v n (ints (marks (n * 3) k))) (hk : 0 ≤ k ∧ k ≤ 1000000000) (hn : n ≤ 100000000) :
    Calls Try.prog 33 #[v, .int .i64 k] w0 fun e w' => e = .returned (.int .i64 (k + ((n * 3 : Nat) : Int))) ∧ w0 = w' := by
  obtain ⟨k1, k2⟩ := hk
  obtain ⟨hl, A, cap, rfl, hcap, hmax, hA⟩ := h
  have HA := Lib.hid hA
  clear hl hA
  unfold maxLen at hmax
  go_enter Try.func33, Try.ntmps33
  go_wp2
  go_loop [5, 1] (fun i k' => ∃ (j : Nat), j ≤ n ∧ i = .int .i64 j ∧ k' = .int .i64 (k + ((j * 3 : Nat) : Int))) (fun i _ => n - (intOf i).toNat)
  case atStart => exact ⟨0, Nat.zero_le _, rfl, by simp⟩
  case round =>
    obtain ⟨j, hj, rfl, rfl⟩ := hrel
    by_cases hlt : j < n
    · obtain ⟨b, off, rfl, hb, hc⟩ := HA.out (by omega)
      have c0 := hc (j * 3) _ (by rw [ints_getD _ _ (by rw [marks, tab_length]; omega), marks, tab_getD _ _ _ (by omega)])
      have c1 := hc (j * 3 + 1) _ (by rw [ints_getD _ _ (by rw [marks, tab_length]; omega), marks, tab_getD _ _ _ (by omega)])
      have c2 := hc (j * 3 + 2) _ (by rw [ints_getD _ _ (by rw [marks, tab_length]; omega), marks, tab_getD _ _ _ (by omega)])
      rw [← Nat.add_assoc] at c1
      rw [← Nat.add_assoc] at c2
      clear hc
      go_wp2
      go_round
      case rel => exact ⟨j + 1, by omega, by go_num, by go_num⟩
      case measure => simp [intOf]; omega
    · obtain rfl : j = n := by omega
      go_wp2
      go_ret
      exact ⟨rfl, rfl⟩
theorem C_markSharedS (L : List Ent) (p n : Nat) (v : Value) (xs : List Int) (k : Int) (w0 w1 : World) (S : St w0 w1 L) (h : At L p (.row 44 2 v n (ints xs))) (hk : 0 ≤ k ∧ k ≤ 1000000000) (hn : n ≤ 100000000) :
    Calls Try.prog 31 #[v, .int .i64 k] w1 fun e w' => e = .returned (.int .i64 (k + ((n * 2 : Nat) : Int))) ∧ St w0 w' (L.set p (.row 44 2 v n (ints (marks (n * 2) k)))) := by
  have hx : xs.length = n * 2 := by have := (Sees.row S h).1; rw [ints_length] at this; omega
  obtain ⟨k1, k2⟩ := hk
  rcases S.rowShape h with ⟨rfl, rfl⟩ | ⟨g, cap, rfl, hcap, hmax⟩
  · obtain rfl : xs = [] := List.length_eq_zero_iff.1 (by omega)
    have e : L.set p (.row 44 2 (.slice none 0 0) 0 (ints (marks (0 * 2) k))) = L := by
      obtain ⟨h1, h2⟩ := List.getElem?_eq_some_iff.1 h.get
      rw [show ints (marks (0 * 2) k) = ints [] from by rw [Nat.zero_mul]; rfl, ← h2, List.set_getElem_self]
    rw [e]
    have S0 := Lib.hid S
    clear S h e hx
    go_enter Try.func31, Try.ntmps31
    go_wp2
    go_loopw [5, 1] (fun i k' wr => i = .int .i64 0 ∧ k' = .int .i64 k ∧ wr = w1) (fun i _ _ => 0)
    case atStart => exact ⟨rfl, rfl, rfl⟩
    case round =>
      obtain ⟨rfl, rfl, rfl⟩ := hrel
      go_wp2
      go_ret
      exact ⟨by simp, S0.out⟩
  · have HX := Lib.hid hx
    unfold maxLen at hmax
    clear hx
    have S0 := Lib.hid S
    clear S
    go_enter Try.func31, Try.ntmps31
    go_wp2
    go_loopw [5, 1] (fun i k' wr => ∃ (j : Nat) (M : List Ent), j ≤ n ∧ i = .int .i64 j ∧ k' = .int .i64 (k + ((j * 2 : Nat) : Int)) ∧ Hid (M = L.set p (.row 44 2 (.slice (some ⟨g, 0, none⟩) n cap) n (ints (tab (j * 2) (fun q => k + q) ++ xs.drop (j * 2))))) ∧ St w0 wr M) (fun i _ _ => n - (intOf i).toNat)
    case atStart =>
      refine ⟨0, L, Nat.zero_le _, rfl, by simp, Lib.hid ?_, S0.out⟩
      obtain ⟨h1, h2⟩ := List.getElem?_eq_some_iff.1 h.get
      rw [show (tab (0 * 2) (fun q => k + (q : Int)) ++ xs.drop (0 * 2)) = xs by rw [Nat.zero_mul]; simp [tab], ← h2, List.set_getElem_self]
    case round =>
      obtain ⟨j, M, hj, rfl, rfl, HM, S⟩ := hrel
      by_cases hlt : j < n
      · have hat : At M p (.row 44 2 (.slice (some ⟨g, 0, none⟩) n cap) n (ints (tab (j * 2) (fun q => k + q) ++ xs.drop (j * 2)))) := by rw [HM.out]; exact h.set
        go_wp2_with (refine wpList_store_row rfl S _ _ _ rfl p _ _ _ _ _ _ _ hat rfl _ rfl (by kernel_rfl) rfl (by omega) ?_; intro w M' hM' T; have hat' := (show At M' p _ from by rw [hM']; exact hat.set); rw [HM.out, List.set_set] at hM'; clear S HM hat; have S := T; have HM := Lib.hid hM'; have hat := hat'; clear T hat' hM')
        go_roundw
        case rel =>
          refine ⟨j + 1, _, by omega, by go_num, by go_num, Lib.hid ?_, S⟩
          have E : (((ints (tab (j * 2) (fun q => k + (q : Int)) ++ xs.drop (j * 2))).set (j * 2) (.int .i64 (k + ((j * 2 : Nat) : Int)))).set (j * 2 + 1) (.int .i64 (k + ((j * 2 + 1 : Nat) : Int)))) = ints (tab (j * 2 + 2) (fun q => k + (q : Int)) ++ xs.drop (j * 2 + 2)) := by
            rw [marks_set xs (n * 2) (j * 2) k HX.out (by omega), marks_set xs (n * 2) (j * 2 + 1) k HX.out (by omega)]
          rw [HM.out, Nat.succ_mul, ← E]
          clear E
          congr 2
          repeat (first | rfl | exact int_congr (by omega) | congr 1)
        case measure => simp [intOf]; omega
      · obtain rfl : j = n := by omega
        go_wp2
        go_ret
        refine ⟨rfl, ?_⟩
        have e : tab (j * 2) (fun q => k + (q : Int)) ++ xs.drop (j * 2) = marks (j * 2) k := by
          rw [List.drop_eq_nil_of_le (Nat.le_of_eq HX.out), List.append_nil]; rfl
        rw [HM.out, e] at S
        exact S
theorem C_markMessageS (L : List Ent) (p n : Nat) (v : Value) (xs : List Int) (k : Int) (w0 w1 : World) (S : St w0 w1 L) (h : At L p (.row 99 3 v n (ints xs))) (hk : 0 ≤ k ∧ k ≤ 1000000000) (hn : n ≤ 100000000) :
    Calls Try.prog 32 #[v, .int .i64 k] w1 fun e w' => e = .returned (.int .i64 (k + ((n * 3 : Nat) : Int))) ∧ St w0 w' (L.set p (.row 99 3 v n (ints (marks (n * 3) k)))) := by
  have hx : xs.length = n * 3 := by have := (Sees.row S h).1; rw [ints_length] at this; omega
  obtain ⟨k1, k2⟩ := hk
  rcases S.rowShape h with ⟨rfl, rfl⟩ | ⟨g, cap, rfl, hcap, hmax⟩
  · obtain rfl : xs = [] := List.length_eq_zero_iff.1 (by omega)
    have e : L.set p (.row 99 3 (.slice none 0 0) 0 (ints (marks (0 * 3) k))) = L := by
      obtain ⟨h1, h2⟩ := List.getElem?_eq_some_iff.1 h.get
      rw [show ints (marks (0 * 3) k) = ints [] from by rw [Nat.zero_mul]; rfl, ← h2, List.set_getElem_self]
    rw [e]
    have S0 := Lib.hid S
    clear S h e hx
    go_enter Try.func32, Try.ntmps32
    go_wp2
    go_loopw [5, 1] (fun i k' wr => i = .int .i64 0 ∧ k' = .int .i64 k ∧ wr = w1) (fun i _ _ => 0)
    case atStart => exact ⟨rfl, rfl, rfl⟩
    case round =>
      obtain ⟨rfl, rfl, rfl⟩ := hrel
      go_wp2
      go_ret
      exact ⟨by simp, S0.out⟩
  · have HX := Lib.hid hx
    unfold maxLen at hmax
    clear hx
    have S0 := Lib.hid S
    clear S
    go_enter Try.func32, Try.ntmps32
    go_wp2
    go_loopw [5, 1] (fun i k' wr => ∃ (j : Nat) (M : List Ent), j ≤ n ∧ i = .int .i64 j ∧ k' = .int .i64 (k + ((j * 3 : Nat) : Int)) ∧ Hid (M = L.set p (.row 99 3 (.slice (some ⟨g, 0, none⟩) n cap) n (ints (tab (j * 3) (fun q => k + q) ++ xs.drop (j * 3))))) ∧ St w0 wr M) (fun i _ _ => n - (intOf i).toNat)
    case atStart =>
      refine ⟨0, L, Nat.zero_le _, rfl, by simp, Lib.hid ?_, S0.out⟩
      obtain ⟨h1, h2⟩ := List.getElem?_eq_some_iff.1 h.get
      rw [show (tab (0 * 3) (fun q => k + (q : Int)) ++ xs.drop (0 * 3)) = xs by rw [Nat.zero_mul]; simp [tab], ← h2, List.set_getElem_self]
    case round =>
      obtain ⟨j, M, hj, rfl, rfl, HM, S⟩ := hrel
      by_cases hlt : j < n
      · have hat : At M p (.row 99 3 (.slice (some ⟨g, 0, none⟩) n cap) n (ints (tab (j * 3) (fun q => k + q) ++ xs.drop (j * 3)))) := by rw [HM.out]; exact h.set
        go_wp2_with (refine wpList_store_row rfl S _ _ _ rfl p _ _ _ _ _ _ _ hat rfl _ rfl (by kernel_rfl) rfl (by omega) ?_; intro w M' hM' T; have hat' := (show At M' p _ from by rw [hM']; exact hat.set); rw [HM.out, List.set_set] at hM'; clear S HM hat; have S := T; have HM := Lib.hid hM'; have hat := hat'; clear T hat' hM')
        go_roundw
        case rel =>
          refine ⟨j + 1, _, by omega, by go_num, by go_num, Lib.hid ?_, S⟩
          have E : ((((ints (tab (j * 3) (fun q => k + (q : Int)) ++ xs.drop (j * 3))).set (j * 3) (.int .i64 (k + ((j * 3 : Nat) : Int)))).set (j * 3 + 1) (.int .i64 (k + ((j * 3 + 1 : Nat) : Int)))).set (j * 3 + 2) (.int .i64 (k + ((j * 3 + 2 : Nat) : Int)))) = ints (tab (j * 3 + 3) (fun q => k + (q : Int)) ++ xs.drop (j * 3 + 3)) := by
            rw [marks_set xs (n * 3) (j * 3) k HX.out (by omega), marks_set xs (n * 3) (j * 3 + 1) k HX.out (by omega), marks_set xs (n * 3) (j * 3 + 2) k HX.out (by omega)]
          rw [HM.out, Nat.succ_mul, ← E]
          clear E
          congr 2
          repeat (first | rfl | exact int_congr (by omega) | congr 1)
        case measure => simp [intOf]; omega
      · obtain rfl : j = n := by omega
        go_wp2
        go_ret
        refine ⟨rfl, ?_⟩
        have e : tab (j * 3) (fun q => k + (q : Int)) ++ xs.drop (j * 3) = marks (j * 3) k := by
          rw [List.drop_eq_nil_of_le (Nat.le_of_eq HX.out), List.append_nil]; rfl
        rw [HM.out, e] at S
        exact S
end Go.Proofs.Ytdgeiooacghcoaa
