/-
  Contracts: rows of matrices, layers are numbered.
-/
import Derived.Test.YtdfpceobfficfaaLyS
namespace Go.Proofs.Ytdfpceobfficfaa
set_option linter.unusedSimpArgs false
set_option linter.unusedVariables false
set_option linter.unusedSectionVars false
open Go Go.RowKit
set_option maxHeartbeats 8000000
set_option maxRecDepth 20000
/-- The numbered matrices, and the number behind them. -/
def markOne (p : Value × Mx) (k : Int) : Value × Mx := (p.1, ⟨k, k + 1, marks p.2.xs.length (k + 2)⟩)
def stepM (p : Value × Mx) (k : Int) : Int := k + 2 + p.2.xs.length
def markPs : MsO → Int → MsO
  | [], _ => []
  | p :: ps, k => markOne p k :: markPs ps (stepM p k)
def endPs : MsO → Int → Int
  | [], k => k
  | p :: ps, k => endPs ps (stepM p k)
theorem endPs_le : ∀ (ps : MsO) (k : Int), k ≤ endPs ps k
  | [], k => Int.le_refl _
  | p :: ps, k => by
    have := endPs_le ps (stepM p k)
    unfold endPs
    unfold stepM at *
    omega
theorem markPs_len : ∀ (ps : MsO) (k : Int), (markPs ps k).length = ps.length
  | [], _ => rfl
  | p :: ps, k => by simp [markPs, markPs_len ps]
theorem endPs_sz : ∀ (ps : MsO) (k z : Int), 0 ≤ szMsFrom (ps.map Prod.snd) z → endPs ps k ≤ k + 2 * ps.length + z
  | [], k, z, h => by
    simp only [List.map_nil, szMsFrom] at h
    simp only [endPs, List.length_nil]
    omega
  | p :: ps, k, z, h => by
    rw [List.map_cons] at h
    unfold szMsFrom at h
    split at h
    · omega
    · have := endPs_sz ps (stepM p k) _ h
      unfold endPs
      unfold stepM at *
      rw [List.length_cons]
      omega
theorem marks_len' (n : Nat) (k : Int) : (marks n k).length = n := tab_length _ _
theorem mark_perm (ru x : Ent) (A B R : List Ent) : (ru :: x :: (B ++ (A ++ R))).Perm (ru :: (B ++ ((A ++ [x]) ++ R))) := by
  refine .cons _ ?_
  rw [List.append_assoc]
  have h1 : (x :: (B ++ (A ++ R))).Perm (B ++ x :: (A ++ R)) := List.perm_middle.symm
  have h2 : (x :: (A ++ R)).Perm (A ++ x :: R) := List.perm_middle.symm
  exact h1.trans (List.Perm.append_left _ h2)
theorem C_markMatrixS (R : List Ent) (u : Value) (ps : MsO) (k : Int) (w0 w1 : World) (S0 : St w0 w1 (entsM u ps ++ R)) (hk : 0 ≤ k) (he : endPs ps k ≤ 100000000) :
    Calls Try.prog 56 #[u, .int .i64 k] w1 fun e w' => e = .returned (.int .i64 (endPs ps k)) ∧ St w0 w' (entsM u (markPs ps k) ++ R) := by
  obtain ⟨n, hn⟩ : ∃ n, ps.length = n := ⟨_, rfl⟩
  have S1 : St w0 w1 (.row 55 3 u n (cellsM ps) :: (rowsM ps ++ R)) := by rw [← hn]; exact S0
  clear S0
  rcases S1.rowShape (p := 0) (show At _ 0 _ from rfl) with ⟨rfl, h0⟩ | ⟨g, cap, rfl, hcap, hmax⟩
  · obtain rfl : ps = [] := List.length_eq_zero_iff.1 (hn.trans h0)
    subst h0
    obtain ⟨L, HL, S⟩ := st_name S1
    replace HL := Lib.hid HL
    clear S1 hn
    have F : True := trivial
    go_enter Try.func56, Try.ntmps56
    go_wp2
    go_loopw [5, 1] (fun i k' wr => i = .int .i64 0 ∧ k' = .int .i64 k ∧ St w0 wr L) (fun i _ _ => 0)
    case atStart => exact ⟨rfl, rfl, S⟩
    case round =>
      obtain ⟨rfl, rfl, S⟩ := hrel
      go_wp2
      go_ret
      rw [HL.out] at S
      exact ⟨rfl, S⟩
  · unfold maxLen at hmax
    obtain ⟨L, HL, S⟩ := st_name S1
    replace HL := Lib.hid HL
    clear S1
    have F : True := trivial
    go_enter Try.func56, Try.ntmps56
    go_wp2
    go_loopw [5, 1] (fun i k' wr => ∃ (j : Nat) (q : Int) (A B : MsO) (L : List Ent), j ≤ n ∧ i = .int .i64 j ∧ k' = .int .i64 q ∧ 0 ≤ q ∧ endPs B q ≤ 100000000 ∧ A.length = j ∧ j + B.length = n ∧ Hid (endPs B q = endPs ps k) ∧ Hid (A ++ markPs B q = markPs ps k) ∧ Hid (L = .row 55 3 (.slice (some ⟨g, 0, none⟩) n cap) n (cellsM A ++ cellsM B) :: (rowsM B ++ (rowsM A ++ R))) ∧ St w0 wr L) (fun i _ _ => n - (intOf i).toNat)
    case atStart => exact ⟨0, k, [], ps, L, Nat.zero_le _, rfl, rfl, hk, he, rfl, by omega, Lib.hid rfl, Lib.hid rfl, HL, S⟩
    case round =>
      clear F HL S
      obtain ⟨j, q, A, B, L, hj, rfl, rfl, hq, heB, hA, hB, HE, HM, HL, S⟩ := hrel
      by_cases hlt : j < n
      · obtain ⟨p, B', rfl⟩ : ∃ p B', B = p :: B' := by
          cases B with
          | nil => simp at hB; omega
          | cons p B' => exact ⟨p, B', rfl⟩
        obtain ⟨x, r, c, xs⟩ := p
        rw [List.length_cons] at hB
        have hle := endPs_le B' (stepM (x, ⟨r, c, xs⟩) q)
        have hcA := cellsM_len A
        rw [hA] at hcA
        have hq2 : q + 2 + xs.length ≤ 100000000 := by
          have h1 : endPs B' (q + 2 + xs.length) ≤ 100000000 := heB
          have h2 : q + 2 + xs.length ≤ endPs B' (q + 2 + xs.length) := hle
          omega
        have HC := Lib.hid hcA
        have HLen := Lib.hid hA
        have HEB := Lib.hid heB
        rw [HL.out] at S
        have T : St w0 wr (.row 55 3 (.slice (some ⟨g, 0, none⟩) n cap) n (cellsM A ++ (.int .i64 r :: .int .i64 c :: x :: cellsM B')) :: .row 3 1 x xs.length (ints xs) :: (rowsM B' ++ (rowsM A ++ R))) := S
        clear S HL hcA hle heB hA
        have S := T
        clear T
        obtain ⟨L, hM, T⟩ := st_name S
        clear S
        have S := T
        clear T
        have HL := Lib.hid hM
        clear hM
        have F : True := trivial
        obtain ⟨A', cap', rfl, hcap', hmax'⟩ := S.sliceOf (atOf HL (p := 1) rfl)
        have hk3 : j * 3 + 3 ≤ n * 3 := by omega
        go_upto_region 6 with (first | (refine wpList_store_rowS rfl S _ _ _ rfl 0 _ _ _ _ _ _ _ (atOf HL rfl) rfl ([.int .i64 q]) rfl (by kernel_rfl) rfl (show _ + 1 ≤ _ from by omega) ?_; intro w L hM T; clear F S; (try rw [HL.out] at hM); clear HL; (try simp [Act.put, Act.eval, Value.cells] at hM); have HL := Lib.hid hM; clear hM; have S := T; clear T; have F := factsAll HL S; (try simp only [factsOf, cellsFrom, and_true, true_and, Nat.reduceAdd] at F)))
        go_upto_region 8 with (first | (refine wpList_store_rowS rfl S _ _ _ rfl 0 _ _ _ _ _ _ _ (atOf HL rfl) rfl ([.int .i64 (q + 1)]) rfl (by kernel_rfl) rfl (show _ + 1 ≤ _ from by omega) ?_; intro w L hM T; clear F S; (try rw [HL.out] at hM); clear HL; (try simp [Act.put, Act.eval, Value.cells] at hM); have HL := Lib.hid hM; clear hM; have S := T; clear T; have F := factsAll HL S; (try simp only [factsOf, cellsFrom, and_true, true_and, Nat.reduceAdd] at F)))
        have hcs : splice (splice (cellsM A ++ (.int .i64 r :: .int .i64 c :: .slice A' xs.length cap' :: cellsM B')) (j * 3) [.int .i64 q]) (j * 3 + 1) [.int .i64 (q + 1)] = cellsM A ++ (.int .i64 q :: .int .i64 (q + 1) :: .slice A' xs.length cap' :: cellsM B') := by
          rw [splice_app _ _ _ _ HC.out]
          have e1 : (cellsM A ++ [Value.int .i64 q]).length = j * 3 + 1 := by rw [List.length_append, HC.out]; rfl
          rw [splice_app _ _ _ _ e1]
          simp
        rw [hcs] at HL
        clear hcs
        have d0 := S.rowCell (p := 0) (atOf HL rfl) (j * 3 + 2) (by omega)
        rw [List.getElem?_append_right (by rw [HC.out]; omega), HC.out, Nat.add_sub_cancel_left] at d0
        have d1 : w.cell? ⟨g, j * 3 + 2, none⟩ = some (.slice A' xs.length cap') := d0
        clear d0
        go_wp2_with (go_at_call 90; refine (C_markIntS L 1 _ _ xs _ w0 _ S (atOf HL rfl) ⟨by omega, by omega⟩ (by omega)).mono ?_; rintro e w ⟨rfl, T0⟩; obtain ⟨L, hM, T⟩ := st_name T0; clear T0; clear F S; (try rw [HL.out] at hM); clear HL; (try simp [Act.put, Act.eval, Value.cells, splice] at hM); have HL := Lib.hid hM; clear hM; have S := T; clear T; have F := factsAll HL S; (try simp only [factsOf, cellsFrom, and_true, true_and, Nat.reduceAdd] at F))
        go_roundw
        case rel =>
          rw [HL.out] at S
          refine ⟨j + 1, q + 2 + xs.length, A ++ [markOne (.slice A' xs.length cap', ⟨r, c, xs⟩) q], B', _, by omega, by go_num, by go_num, by omega, HEB.out, by rw [List.length_append, HLen.out]; rfl, by omega, HE, Lib.hid ?_, Lib.hid rfl, ?_⟩
          · rw [← HM.out, List.append_assoc]
            rfl
          · rw [cellsM_add, rowsM_add, List.append_assoc]
            have T := S.perm (mark_perm _ _ _ _ _)
            have e2 : (marks xs.length (q + 2)).length = xs.length := marks_len' _ _
            have e3 : rowM (markOne (.slice A' xs.length cap', ⟨r, c, xs⟩) q) = .row 3 1 (.slice A' xs.length cap') xs.length (ints (marks xs.length (q + 2))) := by
              show Ent.row 3 1 (.slice A' xs.length cap') (marks xs.length (q + 2)).length (ints (marks xs.length (q + 2))) = _
              rw [e2]
            show St w0 w (_ :: (rowsM B' ++ ((rowsM A ++ [rowM (markOne (.slice A' xs.length cap', ⟨r, c, xs⟩) q)]) ++ R)))
            rw [e3]
            have e4 : q + 1 + 1 = q + 2 := by omega
            rw [e4] at T
            exact T
        case measure => simp [intOf]; omega
      · obtain rfl : j = n := by omega
        obtain rfl : B = [] := List.length_eq_zero_iff.1 (by omega)
        have hAM : A = markPs ps k := by have := HM.out; rwa [markPs, List.append_nil] at this
        go_wp2
        go_ret
        have he' : q = endPs ps k := HE.out
        rw [HL.out] at S
        subst hAM
        refine ⟨congrArg (fun z => Ending.returned (Value.int .i64 z)) he', ?_⟩
        have T : St w0 wr (.row 55 3 (.slice (some ⟨g, 0, none⟩) j cap) j (cellsM (markPs ps k) ++ []) :: ([] ++ (rowsM (markPs ps k) ++ R))) := S
        rw [List.append_nil, List.nil_append] at T
        unfold entsM
        rw [hA]
        exact T
end Go.Proofs.Ytdfpceobfficfaa
