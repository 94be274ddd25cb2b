/-
  Contracts: rows of shared matrices, of shared layers are numbered.
-/
import Derived.Test.YtdfpceobfficfaaSlS
import Derived.Test.YtdfpceobfficfaaLyR
namespace Go.Proofs.Ytdfpceobfficfaa
set_option linter.unusedSimpArgs false
set_option linter.unusedVariables false
set_option linter.unusedSectionVars false
open Go Go.RowKit
set_option maxHeartbeats 8000000
set_option maxRecDepth 20000
/-- The numbered shared matrices, and the number behind them. -/
def markSOne (p : Value × Value × SMx) (k : Int) : Value × Value × SMx :=
  (p.1, p.2.1, ⟨⟨k, k + 1, marks p.2.2.a.xs.length (k + 2)⟩, ⟨k + 2 + p.2.2.a.xs.length, k + 3 + p.2.2.a.xs.length, marks p.2.2.b.xs.length (k + 4 + p.2.2.a.xs.length)⟩⟩)
def stepSM (p : Value × Value × SMx) (k : Int) : Int := k + 4 + p.2.2.a.xs.length + p.2.2.b.xs.length
def markSPs : SMsO → Int → SMsO
  | [], _ => []
  | p :: ps, k => markSOne p k :: markSPs ps (stepSM p k)
def endSPs : SMsO → Int → Int
  | [], k => k
  | p :: ps, k => endSPs ps (stepSM p k)
theorem endSPs_le : ∀ (ps : SMsO) (k : Int), k ≤ endSPs ps k
  | [], k => Int.le_refl _
  | p :: ps, k => by
    have := endSPs_le ps (stepSM p k)
    unfold endSPs
    unfold stepSM at *
    omega
theorem markSPs_len : ∀ (ps : SMsO) (k : Int), (markSPs ps k).length = ps.length
  | [], _ => rfl
  | p :: ps, k => by simp [markSPs, markSPs_len ps]
theorem endSPs_eq : ∀ (ps : SMsO) (k z : Int), 0 ≤ szSMsFrom (ps.map smO) z → endSPs ps k + szSMsFrom (ps.map smO) z = k + 4 * ps.length + z
  | [], k, z, h => by
    simp only [List.map_nil, szSMsFrom, endSPs, List.length_nil]
    omega
  | p :: ps, k, z, h => by
    rw [List.map_cons] at h ⊢
    unfold szSMsFrom at h ⊢
    split at h
    · omega
    · rename_i h0
      rw [if_neg h0]
      have := endSPs_eq ps (stepSM p k) _ h
      unfold endSPs
      unfold stepSM smO at *
      rw [List.length_cons]
      omega
/-- The numbered shared layers, and the number behind them. -/
def markSQ (q : Value × Int × SMsO) (k : Int) : Value × Int × SMsO := (q.1, k, markSPs q.2.2 (k + 1))
def stepSQ (q : Value × Int × SMsO) (k : Int) : Int := endSPs q.2.2 (k + 1)
def markSLs : SLsO → Int → SLsO
  | [], _ => []
  | q :: qs, k => markSQ q k :: markSLs qs (stepSQ q k)
def endSLs : SLsO → Int → Int
  | [], k => k
  | q :: qs, k => endSLs qs (stepSQ q k)
theorem stepSQ_le (q : Value × Int × SMsO) (k : Int) : k + 1 ≤ stepSQ q k := endSPs_le _ _
theorem endSLs_le : ∀ (qs : SLsO) (k : Int), k ≤ endSLs qs k
  | [], k => Int.le_refl _
  | q :: qs, k => by
    have h1 := endSLs_le qs (stepSQ q k)
    have h2 := stepSQ_le q k
    show k ≤ endSLs qs (stepSQ q k)
    omega
theorem markSLs_len : ∀ (qs : SLsO) (k : Int), (markSLs qs k).length = qs.length
  | [], _ => rfl
  | q :: qs, k => congrArg (· + 1) (markSLs_len qs _)
theorem endSLs_sz : ∀ (qs : SLsO) (k z : Int), 0 ≤ z → 0 ≤ szSLsFrom (qs.map slyO) z → endSLs qs k ≤ k + qs.length + 4 * z
  | [], k, z, h0, h => by
    simp only [endSLs, List.length_nil]
    omega
  | q :: qs, k, z, h0, h => by
    rw [List.map_cons] at h
    unfold szSLsFrom at h
    split at h
    · omega
    · rename_i h1
      have h2 := endSLs_sz qs (stepSQ q k) _ (by omega) h
      have h3 : szSMs (slyO q).ws z ≤ z - q.2.2.length ∧ endSPs q.2.2 (k + 1) + szSMs (slyO q).ws z = k + 1 + 4 * q.2.2.length + (z - q.2.2.length) := by
        unfold szSMs at h1 ⊢
        have e : ((slyO q).ws.length : Int) = q.2.2.length := by simp [slyO]
        rw [e] at h1 ⊢
        split at h1
        · omega
        · rename_i h4
          rw [if_neg h4]
          have h5 : (slyO q).ws = q.2.2.map smO := rfl
          rw [h5] at h1 ⊢
          exact ⟨szSMsFrom_le _ _ (by omega), endSPs_eq _ _ _ (by omega)⟩
      unfold endSLs
      have h6 : stepSQ q k = endSPs q.2.2 (k + 1) := rfl
      rw [h6] at h2 ⊢
      rw [List.length_cons]
      omega
theorem mark_permS (ru x y : Ent) (A B R : List Ent) : (ru :: x :: y :: (B ++ (A ++ R))).Perm (ru :: (B ++ ((A ++ [x, y]) ++ R))) := by
  refine .cons _ ?_
  rw [List.append_assoc]
  refine (List.perm_append_comm_assoc [x, y] B (A ++ R)).trans (List.Perm.append_left _ ?_)
  exact List.perm_append_comm_assoc [x, y] A R
theorem C_markSharedMatrixS (R : List Ent) (u : Value) (ps : SMsO) (k : Int) (w0 w1 : World) (S0 : St w0 w1 (entsSM u ps ++ R)) (hk : 0 ≤ k) (he : endSPs ps k ≤ 100000000) :
    Calls Try.prog 55 #[u, .int .i64 k] w1 fun e w' => e = .returned (.int .i64 (endSPs ps k)) ∧ St w0 w' (entsSM u (markSPs ps k) ++ R) := by
  obtain ⟨n, hn⟩ : ∃ n, ps.length = n := ⟨_, rfl⟩
  have S1 : St w0 w1 (.row 67 6 u n (cellsSM ps) :: (rowsSM ps ++ R)) := by rw [← hn]; exact S0
  clear S0
  rcases S1.rowShape (p := 0) (show At _ 0 _ from rfl) with ⟨rfl, h0⟩ | ⟨g, cap, rfl, hcap, hmax⟩
  · obtain rfl : ps = [] := List.length_eq_zero_iff.1 (hn.trans h0)
    subst h0
    obtain ⟨L, HL, S⟩ := st_name S1
    replace HL := Lib.hid HL
    clear S1 hn
    have F : True := trivial
    go_enter Try.func55, Try.ntmps55
    go_wp2
    go_loopw [5, 1] (fun i k' wr => i = .int .i64 0 ∧ k' = .int .i64 k ∧ St w0 wr L) (fun i _ _ => 0)
    case atStart => exact ⟨rfl, rfl, S⟩
    case round =>
      obtain ⟨rfl, rfl, S⟩ := hrel
      go_wp2
      go_ret
      rw [HL.out] at S
      exact ⟨rfl, S⟩
  · unfold maxLen at hmax
    obtain ⟨L, HL, S⟩ := st_name S1
    replace HL := Lib.hid HL
    clear S1
    have F : True := trivial
    go_enter Try.func55, Try.ntmps55
    go_wp2
    go_loopw [5, 1] (fun i k' wr => ∃ (j : Nat) (q : Int) (A B : SMsO) (L : List Ent), j ≤ n ∧ i = .int .i64 j ∧ k' = .int .i64 q ∧ 0 ≤ q ∧ endSPs B q ≤ 100000000 ∧ A.length = j ∧ j + B.length = n ∧ Hid (endSPs B q = endSPs ps k) ∧ Hid (A ++ markSPs B q = markSPs ps k) ∧ Hid (L = .row 67 6 (.slice (some ⟨g, 0, none⟩) n cap) n (cellsSM A ++ cellsSM B) :: (rowsSM B ++ (rowsSM A ++ R))) ∧ St w0 wr L) (fun i _ _ => n - (intOf i).toNat)
    case atStart => exact ⟨0, k, [], ps, L, Nat.zero_le _, rfl, rfl, hk, he, rfl, by omega, Lib.hid rfl, Lib.hid rfl, HL, S⟩
    case round =>
      clear F HL S
      obtain ⟨j, q, A, B, L, hj, rfl, rfl, hq, heB, hA, hB, HE, HM, HL, S⟩ := hrel
      by_cases hlt : j < n
      · obtain ⟨p, B', rfl⟩ : ∃ p B', B = p :: B' := by
          cases B with
          | nil => simp at hB; omega
          | cons p B' => exact ⟨p, B', rfl⟩
        obtain ⟨x, y, ⟨r, c, xs⟩, ⟨r', c', ys⟩⟩ := p
        rw [List.length_cons] at hB
        have hle := endSPs_le B' (stepSM (x, y, ⟨⟨r, c, xs⟩, ⟨r', c', ys⟩⟩) q)
        have hcA := cellsSM_len A
        rw [hA] at hcA
        have hq2 : q + 4 + xs.length + ys.length ≤ 100000000 := by
          have h1 : endSPs B' (q + 4 + xs.length + ys.length) ≤ 100000000 := heB
          have h2 : q + 4 + xs.length + ys.length ≤ endSPs B' (q + 4 + xs.length + ys.length) := hle
          omega
        have HC := Lib.hid hcA
        have HLen := Lib.hid hA
        have HEB := Lib.hid heB
        rw [HL.out] at S
        have T : St w0 wr (.row 67 6 (.slice (some ⟨g, 0, none⟩) n cap) n (cellsSM A ++ (.int .i64 r :: .int .i64 c :: x :: .int .i64 r' :: .int .i64 c' :: y :: cellsSM B')) :: .row 3 1 x xs.length (ints xs) :: .row 3 1 y ys.length (ints ys) :: (rowsSM B' ++ (rowsSM A ++ R))) := S
        clear S HL hcA hle heB hA
        have S := T
        clear T
        obtain ⟨L, hM, T⟩ := st_name S
        clear S
        have S := T
        clear T
        have HL := Lib.hid hM
        clear hM
        have F : True := trivial
        obtain ⟨Ax, capx, rfl, hcapx, hmaxx⟩ := S.sliceOf (atOf HL (p := 1) rfl)
        obtain ⟨Ay, capy, rfl, hcapy, hmaxy⟩ := S.sliceOf (atOf HL (p := 2) rfl)
        have hk6 : j * 6 + 6 ≤ n * 6 := by omega
        go_upto_region 6 with (first | (refine wpList_store_rowS rfl S _ _ _ rfl 0 _ _ _ _ _ _ _ (atOf HL rfl) rfl ([.int .i64 q]) rfl (by kernel_rfl) rfl (show _ + 1 ≤ _ from by omega) ?_; intro w L hM T; clear F S; (try rw [HL.out] at hM); clear HL; (try simp [Act.put, Act.eval, Value.cells] at hM); have HL := Lib.hid hM; clear hM; have S := T; clear T; have F := factsAll HL S; (try simp only [factsOf, cellsFrom, and_true, true_and, Nat.reduceAdd] at F)))
        go_upto_region 8 with (first | (refine wpList_store_rowS rfl S _ _ _ rfl 0 _ _ _ _ _ _ _ (atOf HL rfl) rfl ([.int .i64 (q + 1)]) rfl (by kernel_rfl) rfl (show _ + 1 ≤ _ from by omega) ?_; intro w L hM T; clear F S; (try rw [HL.out] at hM); clear HL; (try simp [Act.put, Act.eval, Value.cells] at hM); have HL := Lib.hid hM; clear hM; have S := T; clear T; have F := factsAll HL S; (try simp only [factsOf, cellsFrom, and_true, true_and, Nat.reduceAdd] at F)))
        have hcs : splice (splice (cellsSM A ++ (.int .i64 r :: .int .i64 c :: .slice Ax xs.length capx :: .int .i64 r' :: .int .i64 c' :: .slice Ay ys.length capy :: cellsSM B')) (j * 6) [.int .i64 q]) (j * 6 + 1) [.int .i64 (q + 1)] = cellsSM A ++ (.int .i64 q :: .int .i64 (q + 1) :: .slice Ax xs.length capx :: .int .i64 r' :: .int .i64 c' :: .slice Ay ys.length capy :: cellsSM B') := by
          rw [splice_app _ _ _ _ HC.out]
          have e1 : (cellsSM A ++ [Value.int .i64 q]).length = j * 6 + 1 := by rw [List.length_append, HC.out]; rfl
          rw [splice_app _ _ _ _ e1]
          simp
        rw [hcs] at HL
        clear hcs
        have d0 := S.rowCell (p := 0) (atOf HL rfl) (j * 6 + 2) (by omega)
        rw [List.getElem?_append_right (by rw [HC.out]; omega), HC.out, Nat.add_sub_cancel_left] at d0
        have d1 : w.cell? ⟨g, j * 6 + 2, none⟩ = some (.slice Ax xs.length capx) := d0
        clear d0
        go_upto_region 9 with (go_at_call 90; refine (C_markIntS L 1 _ _ xs _ w0 _ S (atOf HL rfl) ⟨by omega, by omega⟩ (by omega)).mono ?_; rintro e w ⟨rfl, T0⟩; obtain ⟨L, hM, T⟩ := st_name T0; clear T0; clear F S; (try rw [HL.out] at hM); clear HL; (try simp [Act.put, Act.eval, Value.cells, splice] at hM); have HL := Lib.hid hM; clear hM; have S := T; clear T; have F := factsAll HL S; (try simp only [factsOf, cellsFrom, and_true, true_and, Nat.reduceAdd] at F))
        clear d1
        obtain ⟨q3, hq3⟩ : ∃ q3, q + 1 + 1 + (xs.length : Int) = q3 := ⟨_, rfl⟩
        have HQ3 := Lib.hid hq3
        (try rw [hq3])
        have q31 : 0 ≤ q3 := by omega
        have q32 : q3 + 2 + ys.length ≤ 100000000 := by omega
        clear hq3
        go_upto_region 11 with (first | (refine wpList_store_rowS rfl S _ _ _ rfl 0 _ _ _ _ _ _ _ (atOf HL rfl) rfl ([.int .i64 q3]) rfl (by kernel_rfl) rfl (show _ + 1 ≤ _ from by omega) ?_; intro w L hM T; clear F S; (try rw [HL.out] at hM); clear HL; (try simp [Act.put, Act.eval, Value.cells] at hM); have HL := Lib.hid hM; clear hM; have S := T; clear T; have F := factsAll HL S; (try simp only [factsOf, cellsFrom, and_true, true_and, Nat.reduceAdd] at F)))
        go_upto_region 13 with (first | (refine wpList_store_rowS rfl S _ _ _ rfl 0 _ _ _ _ _ _ _ (atOf HL rfl) rfl ([.int .i64 (q3 + 1)]) rfl (by kernel_rfl) rfl (show _ + 1 ≤ _ from by omega) ?_; intro w L hM T; clear F S; (try rw [HL.out] at hM); clear HL; (try simp [Act.put, Act.eval, Value.cells] at hM); have HL := Lib.hid hM; clear hM; have S := T; clear T; have F := factsAll HL S; (try simp only [factsOf, cellsFrom, and_true, true_and, Nat.reduceAdd] at F)))
        have hcs : splice (splice (cellsSM A ++ (.int .i64 q :: .int .i64 (q + 1) :: .slice Ax xs.length capx :: .int .i64 r' :: .int .i64 c' :: .slice Ay ys.length capy :: cellsSM B')) (j * 6 + 3) [.int .i64 q3]) (j * 6 + 3 + 1) [.int .i64 (q3 + 1)] = cellsSM A ++ (.int .i64 q :: .int .i64 (q + 1) :: .slice Ax xs.length capx :: .int .i64 q3 :: .int .i64 (q3 + 1) :: .slice Ay ys.length capy :: cellsSM B') := by
          have e0 : cellsSM A ++ (.int .i64 q :: .int .i64 (q + 1) :: .slice Ax xs.length capx :: .int .i64 r' :: .int .i64 c' :: .slice Ay ys.length capy :: cellsSM B') = (cellsSM A ++ [.int .i64 q, .int .i64 (q + 1), .slice Ax xs.length capx]) ++ (.int .i64 r' :: .int .i64 c' :: .slice Ay ys.length capy :: cellsSM B') := by simp
          have e1 : (cellsSM A ++ [Value.int .i64 q, .int .i64 (q + 1), .slice Ax xs.length capx]).length = j * 6 + 3 := by rw [List.length_append, HC.out]; rfl
          rw [e0, splice_app _ _ _ _ e1]
          have e2 : (cellsSM A ++ [Value.int .i64 q, .int .i64 (q + 1), .slice Ax xs.length capx] ++ [Value.int .i64 q3]).length = j * 6 + 3 + 1 := by rw [List.length_append, e1]; rfl
          rw [splice_app _ _ _ _ e2]
          simp
        rw [hcs] at HL
        clear hcs
        have d0 := S.rowCell (p := 0) (atOf HL rfl) (j * 6 + 5) (by omega)
        rw [List.getElem?_append_right (by rw [HC.out]; omega), HC.out, Nat.add_sub_cancel_left] at d0
        have d1 : w.cell? ⟨g, j * 6 + 3 + 2, none⟩ = some (.slice Ay ys.length capy) := d0
        clear d0
        go_wp2_with (go_at_call 90; refine (C_markIntS L 2 _ _ ys _ w0 _ S (atOf HL rfl) ⟨by omega, by omega⟩ (by omega)).mono ?_; rintro e w ⟨rfl, T0⟩; obtain ⟨L, hM, T⟩ := st_name T0; clear T0; clear F S; (try rw [HL.out] at hM); clear HL; (try simp [Act.put, Act.eval, Value.cells, splice] at hM); have HL := Lib.hid hM; clear hM; have S := T; clear T; have F := factsAll HL S; (try simp only [factsOf, cellsFrom, and_true, true_and, Nat.reduceAdd] at F))
        go_roundw
        case rel =>
          rw [HL.out] at S
          have e5 : q3 = q + 2 + xs.length := by have := HQ3.out; omega
          subst e5
          refine ⟨j + 1, q + 4 + xs.length + ys.length, A ++ [markSOne (.slice Ax xs.length capx, .slice Ay ys.length capy, ⟨⟨r, c, xs⟩, ⟨r', c', ys⟩⟩) q], B', _, by omega, by go_num, by go_num, by omega, HEB.out, by rw [List.length_append, HLen.out]; rfl, by omega, HE, Lib.hid ?_, Lib.hid rfl, ?_⟩
          · rw [← HM.out, List.append_assoc]
            rfl
          · rw [cellsSM_add, rowsSM_add, List.append_assoc]
            have T := S.perm (mark_permS _ _ _ _ _ _)
            have e2 : (marks xs.length (q + 2)).length = xs.length := marks_len' _ _
            have e2' : (marks ys.length (q + 4 + xs.length)).length = ys.length := marks_len' _ _
            have e3 : rowsSM [markSOne (.slice Ax xs.length capx, .slice Ay ys.length capy, ⟨⟨r, c, xs⟩, ⟨r', c', ys⟩⟩) q] = [.row 3 1 (.slice Ax xs.length capx) xs.length (ints (marks xs.length (q + 2))), .row 3 1 (.slice Ay ys.length capy) ys.length (ints (marks ys.length (q + 4 + xs.length)))] := by
              show [Ent.row 3 1 (.slice Ax xs.length capx) (marks xs.length (q + 2)).length (ints (marks xs.length (q + 2))), Ent.row 3 1 (.slice Ay ys.length capy) (marks ys.length (q + 4 + xs.length)).length (ints (marks ys.length (q + 4 + xs.length)))] = _
              rw [e2, e2']
            have e4 : q + 1 + 1 = q + 2 := by omega
            have e6 : q + 2 + (xs.length : Int) + 1 + 1 = q + 4 + xs.length := by omega
            have e7 : q + 2 + (xs.length : Int) + 1 = q + 3 + xs.length := by omega
            rw [e4, e6, e7] at T
            show St w0 w (.row _ _ _ _ (cellsSM A ++ (.int .i64 q :: .int .i64 (q + 1) :: .slice Ax xs.length capx :: .int .i64 (q + 2 + xs.length) :: .int .i64 (q + 3 + xs.length) :: .slice Ay ys.length capy :: cellsSM B')) :: (rowsSM B' ++ ((rowsSM A ++ rowsSM [markSOne (.slice Ax xs.length capx, .slice Ay ys.length capy, ⟨⟨r, c, xs⟩, ⟨r', c', ys⟩⟩) q]) ++ R)))
            rw [e3]
            exact T
        case measure => simp [intOf]; omega
      · obtain rfl : j = n := by omega
        obtain rfl : B = [] := List.length_eq_zero_iff.1 (by omega)
        have hAM : A = markSPs ps k := by have := HM.out; rwa [markSPs, List.append_nil] at this
        go_wp2
        go_ret
        have he' : q = endSPs ps k := HE.out
        rw [HL.out] at S
        subst hAM
        refine ⟨congrArg (fun z => Ending.returned (Value.int .i64 z)) he', ?_⟩
        have T : St w0 wr (.row 67 6 (.slice (some ⟨g, 0, none⟩) j cap) j (cellsSM (markSPs ps k) ++ []) :: ([] ++ (rowsSM (markSPs ps k) ++ R))) := S
        rw [List.append_nil, List.nil_append] at T
        unfold entsSM
        rw [hA]
        exact T
theorem C_markSharedLayerS (R : List Ent) (u : Value) (qs : SLsO) (k : Int) (w0 w1 : World) (S0 : St w0 w1 (entsSL u qs ++ R)) (hk : 0 ≤ k) (he : endSLs qs k ≤ 100000000) :
    Calls Try.prog 22 #[u, .int .i64 k] w1 fun e w' => e = .returned (.int .i64 (endSLs qs k)) ∧ St w0 w' (entsSL u (markSLs qs k) ++ R) := by
  obtain ⟨n, hn⟩ : ∃ n, qs.length = n := ⟨_, rfl⟩
  have S1 : St w0 w1 (.row 36 2 u n (cellsSL qs) :: (rowsSL qs ++ R)) := by rw [← hn]; exact S0
  clear S0
  rcases S1.rowShape (p := 0) (show At _ 0 _ from rfl) with ⟨rfl, h0⟩ | ⟨g, cap, rfl, hcap, hmax⟩
  · obtain rfl : qs = [] := List.length_eq_zero_iff.1 (hn.trans h0)
    subst h0
    obtain ⟨L, HL, S⟩ := st_name S1
    replace HL := Lib.hid HL
    clear S1 hn
    have F : True := trivial
    go_enter Try.func22, Try.ntmps22
    go_wp2
    go_loopw [5, 1] (fun i k' wr => i = .int .i64 0 ∧ k' = .int .i64 k ∧ St w0 wr L) (fun i _ _ => 0)
    case atStart => exact ⟨rfl, rfl, S⟩
    case round =>
      obtain ⟨rfl, rfl, S⟩ := hrel
      go_wp2
      go_ret
      rw [HL.out] at S
      exact ⟨rfl, S⟩
  · unfold maxLen at hmax
    obtain ⟨L, HL, S⟩ := st_name S1
    replace HL := Lib.hid HL
    clear S1
    have F : True := trivial
    go_enter Try.func22, Try.ntmps22
    go_wp2
    go_loopw [5, 1] (fun i k' wr => ∃ (j : Nat) (q : Int) (A B : SLsO) (L : List Ent), j ≤ n ∧ i = .int .i64 j ∧ k' = .int .i64 q ∧ 0 ≤ q ∧ endSLs B q ≤ 100000000 ∧ A.length = j ∧ j + B.length = n ∧ Hid (endSLs B q = endSLs qs k) ∧ Hid (A ++ markSLs B q = markSLs qs k) ∧ Hid (L = .row 36 2 (.slice (some ⟨g, 0, none⟩) n cap) n (cellsSL A ++ cellsSL B) :: (rowsSL B ++ (rowsSL A ++ R))) ∧ St w0 wr L) (fun i _ _ => n - (intOf i).toNat)
    case atStart => exact ⟨0, k, [], qs, L, Nat.zero_le _, rfl, rfl, hk, he, rfl, by omega, Lib.hid rfl, Lib.hid rfl, HL, S⟩
    case round =>
      clear F HL S
      obtain ⟨j, q, A, B, L, hj, rfl, rfl, hq, heB, hA, hB, HE, HM, HL, S⟩ := hrel
      by_cases hlt : j < n
      · obtain ⟨p, B', rfl⟩ : ∃ p B', B = p :: B' := by
          cases B with
          | nil => simp at hB; omega
          | cons p B' => exact ⟨p, B', rfl⟩
        obtain ⟨x, kd, ps⟩ := p
        rw [List.length_cons] at hB
        have hle := endSLs_le B' (stepSQ (x, kd, ps) q)
        have hcA := cellsSL_len A
        rw [hA] at hcA
        obtain ⟨E, hE⟩ : ∃ E, endSPs ps (q + 1) = E := ⟨_, rfl⟩
        have hE1 : q + 1 ≤ E := hE ▸ endSPs_le ps (q + 1)
        have hE2 : E ≤ 100000000 := by
          have h1 : endSLs B' (endSPs ps (q + 1)) ≤ 100000000 := heB
          have h2 : endSPs ps (q + 1) ≤ endSLs B' (endSPs ps (q + 1)) := hle
          omega
        have HEE := Lib.hid hE
        have HC := Lib.hid hcA
        have HLen := Lib.hid hA
        have HEB : Hid (endSLs B' E ≤ 100000000) := Lib.hid (by rw [← hE]; exact heB)
        rw [HL.out] at S
        have T : St w0 wr (.row 36 2 (.slice (some ⟨g, 0, none⟩) n cap) n (cellsSL A ++ (.int .i64 kd :: x :: cellsSL B')) :: .row 67 6 x ps.length (cellsSM ps) :: (rowsSM ps ++ (rowsSL B' ++ (rowsSL A ++ R)))) := by
          have e : rowsSL ((x, kd, ps) :: B') ++ (rowsSL A ++ R) = entsSM x ps ++ (rowsSL B' ++ (rowsSL A ++ R)) := by
            show (entsSM x ps ++ rowsSL B') ++ (rowsSL A ++ R) = _
            rw [List.append_assoc]
          rw [e] at S
          exact S
        clear S HL hcA hle heB hA hE
        obtain ⟨L, hM, T'⟩ := st_name T
        clear T
        have S := T'
        clear T'
        have HL := Lib.hid hM
        clear hM
        have F : True := trivial
        obtain ⟨A', cap', rfl, hcap', hmax'⟩ := S.sliceOf (atOf HL (p := 1) rfl)
        have hk3 : j * 2 + 2 ≤ n * 2 := by omega
        go_upto_region 5 with (first | (refine wpList_store_rowS rfl S _ _ _ rfl 0 _ _ _ _ _ _ _ (atOf HL rfl) rfl ([.int .i64 q]) rfl (by kernel_rfl) rfl (show _ + 1 ≤ _ from by omega) ?_; intro w L hM T; clear F S; (try rw [HL.out] at hM); clear HL; (try simp [Act.put, Act.eval, Value.cells] at hM); have HL := Lib.hid hM; clear hM; have S := T; clear T; have F := factsAll HL S; (try simp only [factsOf, cellsFrom, and_true, true_and, Nat.reduceAdd] at F)))
        have hcs : splice (cellsSL A ++ (.int .i64 kd :: .slice A' ps.length cap' :: cellsSL B')) (j * 2) [.int .i64 q] = cellsSL A ++ (.int .i64 q :: .slice A' ps.length cap' :: cellsSL B') := by
          rw [splice_app _ _ _ _ HC.out]
          simp
        rw [hcs] at HL
        clear hcs
        have d0 := S.rowCell (p := 0) (atOf HL rfl) (j * 2 + 1) (by omega)
        rw [List.getElem?_append_right (by rw [HC.out]; omega), HC.out, Nat.add_sub_cancel_left] at d0
        have d1 : w.cell? ⟨g, j * 2 + 1, none⟩ = some (.slice A' ps.length cap') := d0
        clear d0
        have T : St w0 w (.row 36 2 (.slice (some ⟨g, 0, none⟩) n cap) n (cellsSL A ++ (.int .i64 q :: .slice A' ps.length cap' :: cellsSL B')) :: (entsSM (.slice A' ps.length cap') ps ++ (rowsSL B' ++ (rowsSL A ++ R)))) := by rw [HL.out] at S; exact S
        have T2 := T.perm List.perm_middle.symm
        have CM := C_markSharedMatrixS _ _ ps (q + 1) w0 w T2 (by omega) (by rw [HEE.out]; exact hE2)
        rw [HEE.out] at CM
        clear T T2 S HL F
        go_wp2_with (go_at_call 55; refine CM.mono ?_; rintro e w ⟨rfl, T0⟩)
        go_roundw
        case rel =>
          refine ⟨j + 1, E, A ++ [markSQ (.slice A' ps.length cap', kd, ps) q], B', _, by omega, by go_num, by go_num, by omega, HEB.out, by rw [List.length_append, HLen.out]; rfl, by omega, Lib.hid ?_, Lib.hid ?_, Lib.hid rfl, ?_⟩
          · rw [← HE.out, ← HEE.out]; rfl
          · rw [← HM.out, List.append_assoc, ← HEE.out]; rfl
          · rw [cellsSL_add, rowsSL_add, List.append_assoc]
            have T := T0.perm (mark_permL _ _ _ _ _)
            show St w0 w (_ :: (rowsSL B' ++ ((rowsSL A ++ rowsSL [markSQ (.slice A' ps.length cap', kd, ps) q]) ++ R)))
            have e3 : rowsSL [markSQ (.slice A' ps.length cap', kd, ps) q] = entsSM (.slice A' ps.length cap') (markSPs ps (q + 1)) := List.append_nil _
            rw [e3]
            exact T
        case measure => simp [intOf]; omega
      · obtain rfl : j = n := by omega
        obtain rfl : B = [] := List.length_eq_zero_iff.1 (by omega)
        have hAM : A = markSLs qs k := by have := HM.out; rwa [markSLs, List.append_nil] at this
        go_wp2
        go_ret
        have he' : q = endSLs qs k := HE.out
        rw [HL.out] at S
        subst hAM
        refine ⟨congrArg (fun z => Ending.returned (Value.int .i64 z)) he', ?_⟩
        have T : St w0 wr (.row 36 2 (.slice (some ⟨g, 0, none⟩) j cap) j (cellsSL (markSLs qs k) ++ []) :: ([] ++ (rowsSL (markSLs qs k) ++ R))) := S
        rw [List.append_nil, List.nil_append] at T
        unfold entsSL
        rw [hA]
        exact T
end Go.Proofs.Ytdfpceobfficfaa
