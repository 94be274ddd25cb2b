/-
  Contracts of what draws messages.
-/
import Derived.Test.YtdgeiooacghcoaaOpenN
import Derived.Test.YtdgeiooacghcoaaShs
namespace Go.Proofs.Ytdgeiooacghcoaa
set_option linter.unusedSimpArgs false
set_option linter.unusedVariables false
set_option linter.unusedSectionVars false
open Go Go.RowKit
set_option maxHeartbeats 8000000
set_option maxRecDepth 20000
/-- Shared numbers are drawn: a new row at the list's front, the reader behind it. -/
def DrawsShs (R : List Ent) (g : Nat) (v : Value) (k : Int) (w0 : World) (e : Ending) (w' : World) : Prop :=
  ∃ (u : Value) (n : Nat) (zs : List Int) (k' : Int), e = .returned u ∧ zs.length = n * 2 ∧ n ≤ 6 ∧ k ≤ k' ∧ k' ≤ k + 400 ∧ St w0 w' (.row 44 2 u n (ints zs) :: .box g 119 [v, .int .i64 k'] :: R)
theorem C_l20List (R : List Ent) (gr : Nat) (v : Value) (k m : Int) (w0 w1 : World) (S0 : St w0 w1 (.box gr 119 [v, .int .i64 k] :: R)) (hB : Bytes w0 v) (hk : 0 ≤ k ∧ k ≤ 600000000) :
    Calls Try.prog 115 #[.pointer (some ⟨gr, 0, none⟩), .int .i64 m] w1 (DrawsShs R gr v k w0) := by
  have HB := Lib.hid hB
  obtain ⟨k1, k2⟩ := hk
  clear hB
  obtain ⟨L, HL, S⟩ := st_name S0
  clear S0
  replace HL := Lib.hid HL
  have F := factsAll HL S
  simp only [factsOf, cellsFrom, and_true, true_and, Nat.reduceAdd] at F
  go_enter Try.func115, Try.ntmps115
  go_wp2_with (first | (refine wpList_empty rfl S _ rfl 44 Try.underlying34 infoSh ?_; intro g w L hM T; clear F S; (try rw [HL.out] at hM); clear HL; (try simp [Act.put, Act.eval, Value.cells, splice] at hM); have HL := Lib.hid hM; clear hM; have S := T; clear T; have F := factsAll HL S; (try simp only [factsOf, cellsFrom, and_true, true_and, Nat.reduceAdd] at F)) | ((go_at_call 76; refine (C_pick _ _ _ _ _ w0 _ (S.front (by first | exact atOf HL (p := 0) rfl | exact atOf HL (p := 1) rfl | exact atOf HL (p := 2) rfl | exact atOf HL (p := 3) rfl | exact atOf HL (p := 4) rfl | exact atOf HL (p := 5) rfl | exact atOf HL (p := 6) rfl | exact atOf HL (p := 7) rfl)) HB.out ⟨by omega, by omega⟩).mono ?_; rintro e w ⟨y, rfl, hy0, T0⟩; obtain ⟨L, hM, T⟩ := st_name T0; clear T0; clear F S; (try rw [HL.out] at hM); clear HL; (try simp only [List.eraseIdx_cons_zero, List.eraseIdx_cons_succ] at hM); have HL := Lib.hid hM; clear hM; have S := T; clear T; have F := factsAll HL S; (try simp only [factsOf, cellsFrom, and_true, true_and, Nat.reduceAdd] at F)); have hy := hy0 (by omega); clear hy0))
  go_loopw [5, 6] (fun u i wr => ∃ (q j : Nat) (zs : List Int) (k' : Int) (L : List Ent), i = .int .i64 q ∧ q + j ≤ 6 ∧ zs.length = j * 2 ∧ k ≤ k' ∧ k' ≤ k + 1 + j * 20 ∧ Hid (L = .row 44 2 u j (ints zs) :: .box gr 119 [v, .int .i64 k'] :: R) ∧ St w0 wr L) (fun _ i _ => (intOf i).toNat)
  case atStart =>
    have T := S.front (atOf HL (p := 1) rfl)
    rw [HL.out] at T
    simp only [List.eraseIdx_cons_succ, List.eraseIdx_cons_zero] at T
    exact ⟨y.toNat, 0, [], k + 1, _, by simp; omega, by omega, rfl, by omega, by omega, rfl, T⟩
  case round =>
    clear F HL S
    obtain ⟨q, j, zs, k', L, rfl, hqj, hz, hk3, hk4, HL, S⟩ := hrel
    have F := factsAll HL S
    simp only [factsOf, cellsFrom, and_true, true_and, Nat.reduceAdd] at F
    by_cases hq : 0 < q
    · go_wp2_with (first | (go_at_call 74; refine (C_l20Shared _ _ _ _ _ w0 _ (S.front (by first | exact atOf HL (p := 0) rfl | exact atOf HL (p := 1) rfl | exact atOf HL (p := 2) rfl | exact atOf HL (p := 3) rfl | exact atOf HL (p := 4) rfl | exact atOf HL (p := 5) rfl | exact atOf HL (p := 6) rfl | exact atOf HL (p := 7) rfl)) HB.out ⟨by omega, by omega⟩).mono ?_; rintro e w ⟨x, y, k', rfl, hk1, hk2, T0⟩; obtain ⟨L, hM, T⟩ := st_name T0; clear T0; clear F S; (try rw [HL.out] at hM); clear HL; (try simp only [List.eraseIdx_cons_zero, List.eraseIdx_cons_succ] at hM); have HL := Lib.hid hM; clear hM; have S := T; clear T; have F := factsAll HL S; (try simp only [factsOf, cellsFrom, and_true, true_and, Nat.reduceAdd] at F)) | (refine wpList_lit2 rfl S _ _ rfl 44 Try.underlying34 infoSh _ _ rfl ?_; intro g w L hM T; clear F S; (try rw [HL.out] at hM); clear HL; (try simp [Act.put, Act.eval, Value.cells, splice] at hM); have HL := Lib.hid hM; clear hM; have S := T; clear T; have F := factsAll HL S; (try simp only [factsOf, cellsFrom, and_true, true_and, Nat.reduceAdd] at F)) | (refine wpList_append_box rfl S _ _ _ rfl 44 _ 2 16 Try.underlying34 infoSh rfl (by omega) _ _ _ _ rfl (by first | exact atOf HL (p := 0) rfl | exact atOf HL (p := 1) rfl | exact atOf HL (p := 2) rfl | exact atOf HL (p := 3) rfl | exact atOf HL (p := 4) rfl | exact atOf HL (p := 5) rfl | exact atOf HL (p := 6) rfl | exact atOf HL (p := 7) rfl) (by omega) _ _ _ _ _ _ rfl (by first | exact atOf HL (p := 0) rfl | exact atOf HL (p := 1) rfl | exact atOf HL (p := 2) rfl | exact atOf HL (p := 3) rfl | exact atOf HL (p := 4) rfl | exact atOf HL (p := 5) rfl | exact atOf HL (p := 6) rfl | exact atOf HL (p := 7) rfl) rfl rfl rfl rfl ?_; intro u w L hM T; clear F S; (try rw [HL.out] at hM); clear HL; (try simp [Act.put, Act.eval, Value.cells, splice] at hM); have HL := Lib.hid hM; clear hM; have S := T; clear T; have F := factsAll HL S; (try simp only [factsOf, cellsFrom, and_true, true_and, Nat.reduceAdd] at F)))
      go_roundw
      case rel =>
        have T := S.front (atOf HL (p := 2) rfl)
        rw [HL.out] at T
        simp only [List.eraseIdx_cons_succ, List.eraseIdx_cons_zero] at T
        have T2 := T.sub (.cons_cons _ (.cons _ (.refl _)))
        rw [show [Value.int .i64 x, Value.int .i64 y] = ints [x, y] from rfl, ← ints_append] at T2
        exact ⟨q - 1, j + 1, _, k', _, by go_num, by omega, by simp [hz]; omega, by omega, by omega, Lib.hid rfl, T2⟩
      case measure => simp [intOf]; omega
    · obtain rfl : q = 0 := by omega
      go_wp2
      go_ret
      rw [HL.out] at S
      refine ⟨_, j, zs, k', ?_, hz, by omega, hk3, by omega, S⟩
      rfl
theorem row_some {w0 w : World} {L : List Ent} {p size n : Nat} {t : TypeId} {v : Value} {xs : List Value} (S : St w0 w L) (h : At L p (.row t size v n xs)) (hne : v ≠ .slice none 0 0) :
    ∃ g cap, v = .slice (some ⟨g, 0, none⟩) n cap ∧ n ≤ cap ∧ cap ≤ maxLen := by
  rcases S.rowShape h with ⟨h1, _⟩ | h1
  · exact absurd h1 hne
  · exact h1
theorem news_row {w0 w : World} {L : List Ent} {p g n cap size : Nat} {t : TypeId} {xs : List Value} (S : St w0 w L) (h : At L p (.row t size (.slice (some ⟨g, 0, none⟩) n cap) n xs)) :
    ∀ j u, xs[j]? = some u → w.cell? ((⟨g, 0, none⟩ : Addr).add j) = some u := by
  intro j u hu
  have hl : xs.length = n * size := (Sees.row S h).1
  have hj : j < n * size := by
    have := (List.getElem?_eq_some_iff.1 hu).1
    omega
  have hadd : (⟨g, 0, none⟩ : Addr).add j = ⟨g, j, none⟩ := by unfold Addr.add; split <;> simp_all
  rw [hadd, S.rowCell h j hj, hu]
theorem C_spec_OpenMessagesX (r : Int) (v : Value) (n : Nat) (zs : List Int) (w0 : World) (hx : zs.length = n * 2) (h : Sees w0 2 v n (ints zs)) :
    Calls Try.prog 26 #[.int .i64 r, v] w0 fun e w => ∃ u m xs, e = .returned u ∧ xs.length = m * 3 ∧ m ≤ 2000 ∧ u ≠ .slice none 0 0 ∧ St w0 w [.row 99 3 u m (ints xs)] :=
  (C_spec_OpenMessagesN r v n zs w0 hx h).mono fun e w ⟨u, m, h1, h2, h3, h4, h5⟩ => ⟨u, m, _, h1, h2, h3, h4, h5⟩
/-- Messages are drawn, and can be read. -/
def DrawnMsgs (w0 : World) (e : Ending) (w' : World) : Prop := ∃ (u : Value) (n : Nat) (zs : List Int), e = .returned u ∧ n ≤ 6000 ∧ Sees w' 3 u n (ints zs) ∧ Below w0.heap.size w0 w'
theorem C_l20Messages (R : List Ent) (gr : Nat) (v : Value) (k m : Int) (w0 w1 : World) (S0 : St w0 w1 (.box gr 119 [v, .int .i64 k] :: R)) (hB : Bytes w0 v) (hk : 0 ≤ k ∧ k ≤ 100000000) :
    Calls Try.prog 78 #[.pointer (some ⟨gr, 0, none⟩), .int .i64 m] w1 (DrawnMsgs w0) := by
  have HB := Lib.hid hB
  obtain ⟨k1, k2⟩ := hk
  clear hB
  obtain ⟨L, HL, S⟩ := st_name S0
  clear S0
  replace HL := Lib.hid HL
  have F := factsAll HL S
  simp only [factsOf, cellsFrom, and_true, true_and, Nat.reduceAdd] at F
  go_enter Try.func78, Try.ntmps78
  go_wp2_with (first | (refine wpList_empty rfl S _ rfl 99 Try.underlying28 infoMsg ?_; intro g w L hM T; clear F S; (try rw [HL.out] at hM); clear HL; (try simp [Act.put, Act.eval, Value.cells, splice] at hM); have HL := Lib.hid hM; clear hM; have S := T; clear T; have F := factsAll HL S; (try simp only [factsOf, cellsFrom, and_true, true_and, Nat.reduceAdd] at F)) | ((go_at_call 76; refine (C_pick _ _ _ _ _ w0 _ (S.front (by first | exact atOf HL (p := 0) rfl | exact atOf HL (p := 1) rfl | exact atOf HL (p := 2) rfl | exact atOf HL (p := 3) rfl | exact atOf HL (p := 4) rfl | exact atOf HL (p := 5) rfl | exact atOf HL (p := 6) rfl | exact atOf HL (p := 7) rfl)) HB.out ⟨by omega, by omega⟩).mono ?_; rintro e w ⟨y, rfl, hy0, T0⟩; obtain ⟨L, hM, T⟩ := st_name T0; clear T0; clear F S; (try rw [HL.out] at hM); clear HL; (try simp only [List.eraseIdx_cons_zero, List.eraseIdx_cons_succ] at hM); have HL := Lib.hid hM; clear hM; have S := T; clear T; have F := factsAll HL S; (try simp only [factsOf, cellsFrom, and_true, true_and, Nat.reduceAdd] at F)); have hy := hy0 (by omega); clear hy0))
  go_loopw [5, 6, 7] (fun u r i wr => ∃ (q j n : Nat) (rd : Int) (zs : List Int) (k' : Int) (L : List Ent), i = .int .i64 q ∧ r = .int .i64 rd ∧ q + j ≤ 3 ∧ 0 ≤ rd ∧ rd ≤ 4 + 2 * j ∧ n ≤ j * 2000 ∧ k ≤ k' ∧ k' ≤ k + 2 + j * 402 ∧ Hid (L = .row 99 3 u n (ints zs) :: .box gr 119 [v, .int .i64 k'] :: R) ∧ St w0 wr L) (fun _ _ i _ => (intOf i).toNat)
  case atStart =>
    have T := S.front (atOf HL (p := 1) rfl)
    rw [HL.out] at T
    simp only [List.eraseIdx_cons_succ, List.eraseIdx_cons_zero] at T
    refine ⟨y.toNat, 0, 0, _, [], k + 1 + 1, _, by simp; omega, rfl, by omega, by omega, by omega, by omega, by omega, by omega, rfl, T⟩
  case round =>
    clear F HL S
    obtain ⟨q, j, n, rd, zs, k', L, rfl, rfl, hqj, hr1, hr2, hn, hk3, hk4, HL, S⟩ := hrel
    have F := factsAll HL S
    simp only [factsOf, cellsFrom, and_true, true_and, Nat.reduceAdd] at F
    by_cases hq : 0 < q
    · go_wp2_with (first | (go_at_call 115; refine (C_l20List _ _ _ _ _ w0 _ (S.front (by first | exact atOf HL (p := 0) rfl | exact atOf HL (p := 1) rfl | exact atOf HL (p := 2) rfl | exact atOf HL (p := 3) rfl | exact atOf HL (p := 4) rfl | exact atOf HL (p := 5) rfl | exact atOf HL (p := 6) rfl | exact atOf HL (p := 7) rfl)) HB.out ⟨by omega, by omega⟩).mono ?_; rintro e w ⟨u0, m0, ys, k', rfl, hys, hm0, hk1, hk2, T0⟩; obtain ⟨L, hM, T⟩ := st_name T0; clear T0; clear F S; (try rw [HL.out] at hM); clear HL; (try simp only [List.eraseIdx_cons_zero, List.eraseIdx_cons_succ] at hM); have HL := Lib.hid hM; clear hM; have S := T; clear T; have F := factsAll HL S; (try simp only [factsOf, cellsFrom, and_true, true_and, Nat.reduceAdd] at F)) | (go_at_call 26; refine (C_spec_OpenMessagesX _ _ m0 ys _ hys (Sees.row S (by first | exact atOf HL (p := 0) rfl | exact atOf HL (p := 1) rfl | exact atOf HL (p := 2) rfl | exact atOf HL (p := 3) rfl | exact atOf HL (p := 4) rfl | exact atOf HL (p := 5) rfl | exact atOf HL (p := 6) rfl | exact atOf HL (p := 7) rfl | exact atOf HL (p := 8) rfl | exact atOf HL (p := 9) rfl))).mono ?_; rintro e w ⟨u2, mm, xs, rfl, hmm, hmm2, hne, T0⟩; obtain ⟨L, hM, T⟩ := st_name (S.call T0); clear T0; clear F S; (try rw [HL.out] at hM); clear HL; (try simp [Act.put, Act.eval, Value.cells, splice] at hM); have HL := Lib.hid hM; clear hM; have S := T; clear T; have F := factsAll HL S; (try simp only [factsOf, cellsFrom, and_true, true_and, Nat.reduceAdd] at F); obtain ⟨g2, c2, rfl, hc2, hc3⟩ := row_some S (atOf HL (p := 0) rfl) hne; clear hne) | (refine wpList_append rfl S _ _ _ rfl 3 99 _ 3 24 Try.underlying28 infoMsg rfl (by omega) _ _ _ rfl (atOf HL rfl) ⟨g2, 0, none⟩ mm c2 (ints xs) rfl (by rw [ints_length]; exact hmm) (news_row S (atOf HL (p := 0) rfl)) (ints_one _) (by simp only [maxLen]; omega) (by omega) ?_; intro u w L hM T; clear F S; (try rw [HL.out] at hM); clear HL; (try simp [Act.put, Act.eval, Value.cells, splice] at hM); have HL := Lib.hid hM; clear hM; have S := T; clear T; have F := factsAll HL S; (try simp only [factsOf, cellsFrom, and_true, true_and, Nat.reduceAdd] at F)) | ((go_at_call 76; refine (C_pick _ _ _ _ _ w0 _ (S.front (by first | exact atOf HL (p := 0) rfl | exact atOf HL (p := 1) rfl | exact atOf HL (p := 2) rfl | exact atOf HL (p := 3) rfl | exact atOf HL (p := 4) rfl | exact atOf HL (p := 5) rfl | exact atOf HL (p := 6) rfl | exact atOf HL (p := 7) rfl)) HB.out ⟨by omega, by omega⟩).mono ?_; rintro e w ⟨y, rfl, hy0, T0⟩; obtain ⟨L, hM, T⟩ := st_name T0; clear T0; clear F S; (try rw [HL.out] at hM); clear HL; (try simp only [List.eraseIdx_cons_zero, List.eraseIdx_cons_succ] at hM); have HL := Lib.hid hM; clear hM; have S := T; clear T; have F := factsAll HL S; (try simp only [factsOf, cellsFrom, and_true, true_and, Nat.reduceAdd] at F)); have hy := hy0 (by omega); clear hy0))
      go_roundw
      case rel =>
        have T := S.front (atOf HL (p := 3) rfl)
        rw [HL.out] at T
        simp only [List.eraseIdx_cons_succ, List.eraseIdx_cons_zero] at T
        have T2 := T.sub (.cons_cons _ (.cons_cons _ (.cons _ (.cons _ (.refl _)))))
        rw [← ints_append] at T2
        exact ⟨q - 1, j + 1, n + mm, _, _, _, _, by go_num, rfl, by omega, by omega, by omega, by omega, by omega, by omega, Lib.hid rfl, T2⟩
      case measure => simp [intOf]; omega
    · obtain rfl : q = 0 := by omega
      have hn6 : n ≤ 6000 := by omega
      have hk5 : k' ≤ k + 1300 := by omega
      clear hn hqj hk4
      rcases S.rowShape (atOf HL (p := 0) rfl) with ⟨rfl, rfl⟩ | ⟨g5, c5, rfl, hc5, hm5⟩
      · go_wp2_with (first | (go_at_call 75; refine (C_odd _ _ _ _ _ w0 _ (S.front (by first | exact atOf HL (p := 0) rfl | exact atOf HL (p := 1) rfl | exact atOf HL (p := 2) rfl | exact atOf HL (p := 3) rfl | exact atOf HL (p := 4) rfl | exact atOf HL (p := 5) rfl | exact atOf HL (p := 6) rfl | exact atOf HL (p := 7) rfl)) HB.out ⟨by omega, by omega⟩).mono ?_; rintro e w ⟨y, k', rfl, hk1, hk2, T0⟩; obtain ⟨L, hM, T⟩ := st_name T0; clear T0; clear F S; (try rw [HL.out] at hM); clear HL; (try simp only [List.eraseIdx_cons_zero, List.eraseIdx_cons_succ] at hM); have HL := Lib.hid hM; clear hM; have S := T; clear T; have F := factsAll HL S; (try simp only [factsOf, cellsFrom, and_true, true_and, Nat.reduceAdd] at F)))
        all_goals go_ret
        all_goals exact ⟨_, 0, [], rfl, by omega, Sees.nil_ _ _, S.below⟩
      unfold maxLen at hm5
      by_cases hn0 : n = 0
      · subst hn0
        go_wp2_with (first | (go_at_call 75; refine (C_odd _ _ _ _ _ w0 _ (S.front (by first | exact atOf HL (p := 0) rfl | exact atOf HL (p := 1) rfl | exact atOf HL (p := 2) rfl | exact atOf HL (p := 3) rfl | exact atOf HL (p := 4) rfl | exact atOf HL (p := 5) rfl | exact atOf HL (p := 6) rfl | exact atOf HL (p := 7) rfl)) HB.out ⟨by omega, by omega⟩).mono ?_; rintro e w ⟨y, k', rfl, hk1, hk2, T0⟩; obtain ⟨L, hM, T⟩ := st_name T0; clear T0; clear F S; (try rw [HL.out] at hM); clear HL; (try simp only [List.eraseIdx_cons_zero, List.eraseIdx_cons_succ] at hM); have HL := Lib.hid hM; clear hM; have S := T; clear T; have F := factsAll HL S; (try simp only [factsOf, cellsFrom, and_true, true_and, Nat.reduceAdd] at F)))
        all_goals go_ret
        all_goals exact ⟨_, 0, zs, rfl, by omega, (Sees.row S (by first | exact atOf HL (p := 0) rfl | exact atOf HL (p := 1) rfl | exact atOf HL (p := 2) rfl | exact atOf HL (p := 3) rfl | exact atOf HL (p := 4) rfl | exact atOf HL (p := 5) rfl | exact atOf HL (p := 6) rfl | exact atOf HL (p := 7) rfl | exact atOf HL (p := 8) rfl | exact atOf HL (p := 9) rfl)), S.below⟩
      go_upto_region 10 with (first | (go_at_call 75; refine (C_odd _ _ _ _ _ w0 _ (S.front (by first | exact atOf HL (p := 0) rfl | exact atOf HL (p := 1) rfl | exact atOf HL (p := 2) rfl | exact atOf HL (p := 3) rfl | exact atOf HL (p := 4) rfl | exact atOf HL (p := 5) rfl | exact atOf HL (p := 6) rfl | exact atOf HL (p := 7) rfl)) HB.out ⟨by omega, by omega⟩).mono ?_; rintro e w ⟨y, k', rfl, hk1, hk2, T0⟩; obtain ⟨L, hM, T⟩ := st_name T0; clear T0; clear F S; (try rw [HL.out] at hM); clear HL; (try simp only [List.eraseIdx_cons_zero, List.eraseIdx_cons_succ] at hM); have HL := Lib.hid hM; clear hM; have S := T; clear T; have F := factsAll HL S; (try simp only [factsOf, cellsFrom, and_true, true_and, Nat.reduceAdd] at F)) | ((go_at_call 76; refine (C_pick _ _ _ _ _ w0 _ (S.front (by first | exact atOf HL (p := 0) rfl | exact atOf HL (p := 1) rfl | exact atOf HL (p := 2) rfl | exact atOf HL (p := 3) rfl | exact atOf HL (p := 4) rfl | exact atOf HL (p := 5) rfl | exact atOf HL (p := 6) rfl | exact atOf HL (p := 7) rfl)) HB.out ⟨by omega, by omega⟩).mono ?_; rintro e w ⟨y, rfl, hy0, T0⟩; obtain ⟨L, hM, T⟩ := st_name T0; clear T0; clear F S; (try rw [HL.out] at hM); clear HL; (try simp only [List.eraseIdx_cons_zero, List.eraseIdx_cons_succ] at hM); have HL := Lib.hid hM; clear hM; have S := T; clear T; have F := factsAll HL S; (try simp only [factsOf, cellsFrom, and_true, true_and, Nat.reduceAdd] at F)); have hy := hy0 (by omega); clear hy0))
      rotate_left
      · go_ret
        exact ⟨_, n, zs, rfl, hn6, Sees.row S (by first | exact atOf HL (p := 0) rfl | exact atOf HL (p := 1) rfl | exact atOf HL (p := 2) rfl | exact atOf HL (p := 3) rfl | exact atOf HL (p := 4) rfl | exact atOf HL (p := 5) rfl | exact atOf HL (p := 6) rfl | exact atOf HL (p := 7) rfl | exact atOf HL (p := 8) rfl | exact atOf HL (p := 9) rfl), S.below⟩
      obtain ⟨kk, rfl⟩ : ∃ kk : Nat, y = kk := ⟨y.toNat, by omega⟩
      have hkk : kk < n := by omega
      clear hy
      go_upto_region 12 with (first | ((go_at_call 76; refine (C_pick _ _ _ _ _ w0 _ (S.front (by first | exact atOf HL (p := 0) rfl | exact atOf HL (p := 1) rfl | exact atOf HL (p := 2) rfl | exact atOf HL (p := 3) rfl | exact atOf HL (p := 4) rfl | exact atOf HL (p := 5) rfl | exact atOf HL (p := 6) rfl | exact atOf HL (p := 7) rfl)) HB.out ⟨by omega, by omega⟩).mono ?_; rintro e w ⟨y, rfl, hy0, T0⟩; obtain ⟨L, hM, T⟩ := st_name T0; clear T0; clear F S; (try rw [HL.out] at hM); clear HL; (try simp only [List.eraseIdx_cons_zero, List.eraseIdx_cons_succ] at hM); have HL := Lib.hid hM; clear hM; have S := T; clear T; have F := factsAll HL S; (try simp only [factsOf, cellsFrom, and_true, true_and, Nat.reduceAdd] at F)); have hy := hy0 (by omega); clear hy0))
      have hz0 := S.rowCell (atOf HL (p := 1) rfl) (kk * 3 + 1) (by omega)
      have hl := (Sees.row S (atOf HL (p := 1) rfl)).1
      rw [ints_length] at hl
      rw [ints_getD zs (kk * 3 + 1) (by omega)] at hz0
      generalize zs.getD (kk * 3 + 1) 0 = z at hz0
      go_wp2_with (first | ((go_at_call 76; refine (C_pick _ _ _ _ _ w0 _ (S.front (by first | exact atOf HL (p := 0) rfl | exact atOf HL (p := 1) rfl | exact atOf HL (p := 2) rfl | exact atOf HL (p := 3) rfl | exact atOf HL (p := 4) rfl | exact atOf HL (p := 5) rfl | exact atOf HL (p := 6) rfl | exact atOf HL (p := 7) rfl)) HB.out ⟨by omega, by omega⟩).mono ?_; rintro e w ⟨y, rfl, hy0, T0⟩; obtain ⟨L, hM, T⟩ := st_name T0; clear T0; clear F S; (try rw [HL.out] at hM); clear HL; (try simp only [List.eraseIdx_cons_zero, List.eraseIdx_cons_succ] at hM); have HL := Lib.hid hM; clear hM; have S := T; clear T; have F := factsAll HL S; (try simp only [factsOf, cellsFrom, and_true, true_and, Nat.reduceAdd] at F)); have hy := hy0 (by omega); clear hy0) | (refine wpList_lit rfl S _ _ _ rfl 3 Try.underlying23 infoInt (by simp [Act.eval]) (by simp [Act.eval, Value.oneCell']) rfl rfl rfl ?_; intro g w L hM T; clear F S; (try rw [HL.out] at hM); clear HL; (try simp [Act.put, Act.eval, Value.cells, splice] at hM); have HL := Lib.hid hM; clear hM; have S := T; clear T; have F := factsAll HL S; (try simp only [factsOf, cellsFrom, and_true, true_and, Nat.reduceAdd] at F)) | (first | (refine wpList_load_lit rfl S _ _ rfl Try.underlying3 1 _ _ _ _ (atOf HL rfl) rfl (by simp) (by simp; omega) ?_; intro q hq; clear hq) | (refine wpList_load_lit rfl S _ _ rfl Try.underlying3 2 _ _ _ _ (atOf HL rfl) rfl (by simp) (by simp; omega) ?_; intro q hq; clear hq) | (refine wpList_load_lit rfl S _ _ rfl Try.underlying3 3 _ _ _ _ (atOf HL rfl) rfl (by simp) (by simp; omega) ?_; intro q hq; clear hq)) | (refine wpList_store_row rfl S _ _ _ rfl 1 _ _ _ _ _ _ _ (atOf HL rfl) rfl _ rfl (by kernel_rfl) rfl (by omega) ?_; intro w L hM T; clear F S; rw [HL.out] at hM; clear HL; simp only [List.set_cons_zero, List.set_cons_succ] at hM; have HL := Lib.hid hM; clear hM; have S := T; clear T; have F : True := trivial) | (refine wpList_store_row rfl S _ _ _ rfl 2 _ _ _ _ _ _ _ (atOf HL rfl) rfl _ rfl (by kernel_rfl) rfl (by omega) ?_; intro w L hM T; clear F S; rw [HL.out] at hM; clear HL; simp only [List.set_cons_zero, List.set_cons_succ] at hM; have HL := Lib.hid hM; clear hM; have S := T; clear T; have F : True := trivial))
      · go_ret
        have hs := Sees.row S (atOf HL (p := 1) rfl)
        exact ⟨_, n, zs.set (kk * 3 + 1) _, rfl, hn6, by rw [ints_set]; exact hs, S.below⟩
      · go_ret
        have hs := Sees.row S (atOf HL (p := 2) rfl)
        exact ⟨_, n, zs.set (kk * 3) _, rfl, hn6, by rw [ints_set]; exact hs, S.below⟩
      · go_ret
        have hs := Sees.row S (atOf HL (p := 1) rfl)
        exact ⟨_, n, zs.set (kk * 3 + 2) _, rfl, hn6, by rw [ints_set]; exact hs, S.below⟩
      · go_ret
        exact ⟨_, n - 1, [], rfl, by omega, ⟨by simp [ints]; omega, _, 0, rfl, by omega, by simp [maxLen], fun h => absurd h (by omega)⟩, S.below⟩
      · go_ret
        have hs := Sees.row S (atOf HL (p := 1) rfl)
        refine ⟨_, n - 1, zs.drop 3, rfl, by omega, ?_, S.below⟩
        rw [show ints (zs.drop 3) = (ints zs).drop (1 * 3) from by simp [ints, List.map_drop]]
        exact hs.rest 1 (n - 1) (by omega) _ _ rfl ⟨by omega, by omega⟩
theorem C_DrawMessagesValid (v : Value) (w0 : World) (h : Bytes w0 v) : Calls Try.prog 22 #[v] w0 (DrawnMsgs w0) := by
  have HB0 := Lib.hid h
  clear h
  obtain ⟨L, HL, S⟩ := st_start w0; have F : True := trivial
  go_enter Try.func22, Try.ntmps22
  go_wp2_with (first | (go_at_call 72; refine (C_l20Open _ w0 _ (HB0.out)).mono ?_; rintro e w ⟨gr, vr, rfl, hB, T0⟩; have HB := Lib.hid hB; clear hB; obtain ⟨L, hM, T⟩ := st_name (S.call T0); clear T0; clear F S; (try rw [HL.out] at hM); clear HL; (try simp [Act.put, Act.eval, Value.cells, splice] at hM); have HL := Lib.hid hM; clear hM; have S := T; clear T; have F := factsAll HL S; (try simp only [factsOf, cellsFrom, and_true, true_and, Nat.reduceAdd] at F)) | (go_at_call 78; refine (C_l20Messages _ _ _ _ _ w0 _ (S.front (by first | exact atOf HL (p := 0) rfl | exact atOf HL (p := 1) rfl | exact atOf HL (p := 2) rfl | exact atOf HL (p := 3) rfl | exact atOf HL (p := 4) rfl | exact atOf HL (p := 5) rfl | exact atOf HL (p := 6) rfl | exact atOf HL (p := 7) rfl)) HB.out ⟨by omega, by omega⟩).mono ?_; rintro e w ⟨u, n, zs, rfl, hn, hs, hb⟩))
  go_ret
  exact ⟨_, n, zs, rfl, hn, hs, hb⟩
end Go.Proofs.Ytdgeiooacghcoaa
