/-
  Contract: rows of layers are numbered.
-/
import Derived.Test.YtdfpceobfficfaaLyK
namespace Go.Proofs.Ytdfpceobfficfaa
set_option linter.unusedSimpArgs false
set_option linter.unusedVariables false
set_option linter.unusedSectionVars false
open Go Go.RowKit
set_option maxHeartbeats 8000000
set_option maxRecDepth 20000
/-- The numbered layers, and the number behind them. -/
def markQ (q : Value × Int × MsO) (k : Int) : Value × Int × MsO := (q.1, k, markPs q.2.2 (k + 1))
def stepQ (q : Value × Int × MsO) (k : Int) : Int := endPs q.2.2 (k + 1)
def markLs : LsO → Int → LsO
  | [], _ => []
  | q :: qs, k => markQ q k :: markLs qs (stepQ q k)
def endLs : LsO → Int → Int
  | [], k => k
  | q :: qs, k => endLs qs (stepQ q k)
theorem stepQ_le (q : Value × Int × MsO) (k : Int) : k + 1 ≤ stepQ q k := endPs_le _ _
theorem endLs_le : ∀ (qs : LsO) (k : Int), k ≤ endLs qs k
  | [], k => Int.le_refl _
  | q :: qs, k => by
    have h1 := endLs_le qs (stepQ q k)
    have h2 := stepQ_le q k
    show k ≤ endLs qs (stepQ q k)
    omega
theorem markLs_len : ∀ (qs : LsO) (k : Int), (markLs qs k).length = qs.length
  | [], _ => rfl
  | q :: qs, k => congrArg (· + 1) (markLs_len qs _)
theorem mark_permL (ru : Ent) (E A B R : List Ent) : (E ++ ru :: (B ++ (A ++ R))).Perm (ru :: (B ++ ((A ++ E) ++ R))) := by
  refine List.perm_middle.trans (.cons _ ?_)
  rw [List.append_assoc]
  refine (List.perm_append_comm_assoc E B (A ++ R)).trans (List.Perm.append_left _ ?_)
  exact List.perm_append_comm_assoc E A R
theorem C_markLayerS (R : List Ent) (u : Value) (qs : LsO) (k : Int) (w0 w1 : World) (S0 : St w0 w1 (entsL u qs ++ R)) (hk : 0 ≤ k) (he : endLs qs k ≤ 100000000) :
    Calls Try.prog 23 #[u, .int .i64 k] w1 fun e w' => e = .returned (.int .i64 (endLs qs k)) ∧ St w0 w' (entsL u (markLs qs k) ++ R) := by
  obtain ⟨n, hn⟩ : ∃ n, qs.length = n := ⟨_, rfl⟩
  have S1 : St w0 w1 (.row 33 2 u n (cellsL qs) :: (rowsL qs ++ R)) := by rw [← hn]; exact S0
  clear S0
  rcases S1.rowShape (p := 0) (show At _ 0 _ from rfl) with ⟨rfl, h0⟩ | ⟨g, cap, rfl, hcap, hmax⟩
  · obtain rfl : qs = [] := List.length_eq_zero_iff.1 (hn.trans h0)
    subst h0
    obtain ⟨L, HL, S⟩ := st_name S1
    replace HL := Lib.hid HL
    clear S1 hn
    have F : True := trivial
    go_enter Try.func23, Try.ntmps23
    go_wp2
    go_loopw [5, 1] (fun i k' wr => i = .int .i64 0 ∧ k' = .int .i64 k ∧ St w0 wr L) (fun i _ _ => 0)
    case atStart => exact ⟨rfl, rfl, S⟩
    case round =>
      obtain ⟨rfl, rfl, S⟩ := hrel
      go_wp2
      go_ret
      rw [HL.out] at S
      exact ⟨rfl, S⟩
  · unfold maxLen at hmax
    obtain ⟨L, HL, S⟩ := st_name S1
    replace HL := Lib.hid HL
    clear S1
    have F : True := trivial
    go_enter Try.func23, Try.ntmps23
    go_wp2
    go_loopw [5, 1] (fun i k' wr => ∃ (j : Nat) (q : Int) (A B : LsO) (L : List Ent), j ≤ n ∧ i = .int .i64 j ∧ k' = .int .i64 q ∧ 0 ≤ q ∧ endLs B q ≤ 100000000 ∧ A.length = j ∧ j + B.length = n ∧ Hid (endLs B q = endLs qs k) ∧ Hid (A ++ markLs B q = markLs qs k) ∧ Hid (L = .row 33 2 (.slice (some ⟨g, 0, none⟩) n cap) n (cellsL A ++ cellsL B) :: (rowsL B ++ (rowsL A ++ R))) ∧ St w0 wr L) (fun i _ _ => n - (intOf i).toNat)
    case atStart => exact ⟨0, k, [], qs, L, Nat.zero_le _, rfl, rfl, hk, he, rfl, by omega, Lib.hid rfl, Lib.hid rfl, HL, S⟩
    case round =>
      clear F HL S
      obtain ⟨j, q, A, B, L, hj, rfl, rfl, hq, heB, hA, hB, HE, HM, HL, S⟩ := hrel
      by_cases hlt : j < n
      · obtain ⟨p, B', rfl⟩ : ∃ p B', B = p :: B' := by
          cases B with
          | nil => simp at hB; omega
          | cons p B' => exact ⟨p, B', rfl⟩
        obtain ⟨x, kd, ps⟩ := p
        rw [List.length_cons] at hB
        have hle := endLs_le B' (stepQ (x, kd, ps) q)
        have hcA := cellsL_len A
        rw [hA] at hcA
        obtain ⟨E, hE⟩ : ∃ E, endPs ps (q + 1) = E := ⟨_, rfl⟩
        have hE1 : q + 1 ≤ E := hE ▸ endPs_le ps (q + 1)
        have hE2 : E ≤ 100000000 := by
          have h1 : endLs B' (endPs ps (q + 1)) ≤ 100000000 := heB
          have h2 : endPs ps (q + 1) ≤ endLs B' (endPs ps (q + 1)) := hle
          omega
        have HEE := Lib.hid hE
        have HC := Lib.hid hcA
        have HLen := Lib.hid hA
        have HEB : Hid (endLs B' E ≤ 100000000) := Lib.hid (by rw [← hE]; exact heB)
        rw [HL.out] at S
        have T : St w0 wr (.row 33 2 (.slice (some ⟨g, 0, none⟩) n cap) n (cellsL A ++ (.int .i64 kd :: x :: cellsL B')) :: .row 55 3 x ps.length (cellsM ps) :: (rowsM ps ++ (rowsL B' ++ (rowsL A ++ R)))) := by
          have e : rowsL ((x, kd, ps) :: B') ++ (rowsL A ++ R) = entsM x ps ++ (rowsL B' ++ (rowsL A ++ R)) := by
            show (entsM x ps ++ rowsL B') ++ (rowsL A ++ R) = _
            rw [List.append_assoc]
          rw [e] at S
          exact S
        clear S HL hcA hle heB hA hE
        obtain ⟨L, hM, T'⟩ := st_name T
        clear T
        have S := T'
        clear T'
        have HL := Lib.hid hM
        clear hM
        have F : True := trivial
        obtain ⟨A', cap', rfl, hcap', hmax'⟩ := S.sliceOf (atOf HL (p := 1) rfl)
        have hk3 : j * 2 + 2 ≤ n * 2 := by omega
        go_upto_region 5 with (first | (refine wpList_store_rowS rfl S _ _ _ rfl 0 _ _ _ _ _ _ _ (atOf HL rfl) rfl ([.int .i64 q]) rfl (by kernel_rfl) rfl (show _ + 1 ≤ _ from by omega) ?_; intro w L hM T; clear F S; (try rw [HL.out] at hM); clear HL; (try simp [Act.put, Act.eval, Value.cells] at hM); have HL := Lib.hid hM; clear hM; have S := T; clear T; have F := factsAll HL S; (try simp only [factsOf, cellsFrom, and_true, true_and, Nat.reduceAdd] at F)))
        have hcs : splice (cellsL A ++ (.int .i64 kd :: .slice A' ps.length cap' :: cellsL B')) (j * 2) [.int .i64 q] = cellsL A ++ (.int .i64 q :: .slice A' ps.length cap' :: cellsL B') := by
          rw [splice_app _ _ _ _ HC.out]
          simp
        rw [hcs] at HL
        clear hcs
        have d0 := S.rowCell (p := 0) (atOf HL rfl) (j * 2 + 1) (by omega)
        rw [List.getElem?_append_right (by rw [HC.out]; omega), HC.out, Nat.add_sub_cancel_left] at d0
        have d1 : w.cell? ⟨g, j * 2 + 1, none⟩ = some (.slice A' ps.length cap') := d0
        clear d0
        have T : St w0 w (.row 33 2 (.slice (some ⟨g, 0, none⟩) n cap) n (cellsL A ++ (.int .i64 q :: .slice A' ps.length cap' :: cellsL B')) :: (entsM (.slice A' ps.length cap') ps ++ (rowsL B' ++ (rowsL A ++ R)))) := by rw [HL.out] at S; exact S
        have T2 := T.perm List.perm_middle.symm
        have CM := C_markMatrixS _ _ ps (q + 1) w0 w T2 (by omega) (by rw [HEE.out]; exact hE2)
        rw [HEE.out] at CM
        clear T T2 S HL F
        go_wp2_with (go_at_call 56; refine CM.mono ?_; rintro e w ⟨rfl, T0⟩)
        go_roundw
        case rel =>
          refine ⟨j + 1, E, A ++ [markQ (.slice A' ps.length cap', kd, ps) q], B', _, by omega, by go_num, by go_num, by omega, HEB.out, by rw [List.length_append, HLen.out]; rfl, by omega, Lib.hid ?_, Lib.hid ?_, Lib.hid rfl, ?_⟩
          · rw [← HE.out, ← HEE.out]; rfl
          · rw [← HM.out, List.append_assoc, ← HEE.out]; rfl
          · rw [cellsL_add, rowsL_add, List.append_assoc]
            have T := T0.perm (mark_permL _ _ _ _ _)
            show St w0 w (_ :: (rowsL B' ++ ((rowsL A ++ rowsL [markQ (.slice A' ps.length cap', kd, ps) q]) ++ R)))
            have e3 : rowsL [markQ (.slice A' ps.length cap', kd, ps) q] = entsM (.slice A' ps.length cap') (markPs ps (q + 1)) := List.append_nil _
            rw [e3]
            exact T
        case measure => simp [intOf]; omega
      · obtain rfl : j = n := by omega
        obtain rfl : B = [] := List.length_eq_zero_iff.1 (by omega)
        have hAM : A = markLs qs k := by have := HM.out; rwa [markLs, List.append_nil] at this
        go_wp2
        go_ret
        have he' : q = endLs qs k := HE.out
        rw [HL.out] at S
        subst hAM
        refine ⟨congrArg (fun z => Ending.returned (Value.int .i64 z)) he', ?_⟩
        have T : St w0 wr (.row 33 2 (.slice (some ⟨g, 0, none⟩) j cap) j (cellsL (markLs qs k) ++ []) :: ([] ++ (rowsL (markLs qs k) ++ R))) := S
        rw [List.append_nil, List.nil_append] at T
        unfold entsL
        rw [hA]
        exact T
end Go.Proofs.Ytdfpceobfficfaa
