/-
  Contracts: matrices turned by the program; shared matrices turned.
-/
import Derived.Test.YtdfpceobfficfaaMatT
namespace Go.Proofs.Ytdfpceobfficfaa
set_option linter.unusedSimpArgs false
set_option linter.unusedVariables false
set_option linter.unusedSectionVars false
open Go Go.RowKit
set_option maxHeartbeats 8000000
set_option maxRecDepth 20000
theorem C_emptyMatrix (R C N : Nat) (w0 : World) (hN : R * C = N) (hN2 : N ≤ 25) : Calls Try.prog 126 #[.int .i64 R, .int .i64 C] w0 (MakesMx w0 R C (tab N fun _ => 0)) := by
  unfold MakesMx
  rw [tab_length, ← ints_tab_zero]
  have w1 : (R : Int) * (C : Int) = (N : Int) := by rw [← hN, Int.natCast_mul]
  clear hN
  obtain ⟨L, HL, S⟩ := st_start w0; have F : True := trivial
  go_enter Try.func126, Try.ntmps126
  go_wp2_with (first | (refine wpList_box rfl S _ _ rfl ?_; intro g w L hM T; clear F S; (try rw [HL.out] at hM); clear HL; (try simp [Act.put, Act.eval, Value.cells, splice] at hM); have HL := Lib.hid hM; clear hM; have S := T; clear T; have F := factsAll HL S; (try simp only [factsOf, cellsFrom, and_true, true_and, Nat.reduceAdd] at F)) | (refine wpList_alloc rfl S 55 _ rfl zMx ?_; intro g w L hM T; clear F S; (try rw [HL.out] at hM); clear HL; (try simp [Act.put, Act.eval, Value.cells, splice] at hM); have HL := Lib.hid hM; clear hM; have S := T; clear T; have F := factsAll HL S; (try simp only [factsOf, cellsFrom, and_true, true_and, Nat.reduceAdd] at F)) | (refine wpList_store_box rfl S _ _ _ rfl 0 _ _ _ _ (atOf HL rfl) rfl _ rfl (by kernel_rfl) rfl rfl ?_; intro w L hM T; clear F S; (try rw [HL.out] at hM); clear HL; (try simp [Act.put, Act.eval, Value.cells, splice] at hM); have HL := Lib.hid hM; clear hM; have S := T; clear T; have F := factsAll HL S; (try simp only [factsOf, cellsFrom, and_true, true_and, Nat.reduceAdd] at F)) | (refine wpList_store_box rfl S _ _ _ rfl 1 _ _ _ _ (atOf HL rfl) rfl _ rfl (by kernel_rfl) rfl rfl ?_; intro w L hM T; clear F S; (try rw [HL.out] at hM); clear HL; (try simp [Act.put, Act.eval, Value.cells, splice] at hM); have HL := Lib.hid hM; clear hM; have S := T; clear T; have F := factsAll HL S; (try simp only [factsOf, cellsFrom, and_true, true_and, Nat.reduceAdd] at F)) | (refine wpList_store_box rfl S _ _ _ rfl 2 _ _ _ _ (atOf HL rfl) rfl _ rfl (by kernel_rfl) rfl rfl ?_; intro w L hM T; clear F S; (try rw [HL.out] at hM); clear HL; (try simp [Act.put, Act.eval, Value.cells, splice] at hM); have HL := Lib.hid hM; clear hM; have S := T; clear T; have F := factsAll HL S; (try simp only [factsOf, cellsFrom, and_true, true_and, Nat.reduceAdd] at F)) | (refine wpList_store_box rfl S _ _ _ rfl 3 _ _ _ _ (atOf HL rfl) rfl _ rfl (by kernel_rfl) rfl rfl ?_; intro w L hM T; clear F S; (try rw [HL.out] at hM); clear HL; (try simp [Act.put, Act.eval, Value.cells, splice] at hM); have HL := Lib.hid hM; clear hM; have S := T; clear T; have F := factsAll HL S; (try simp only [factsOf, cellsFrom, and_true, true_and, Nat.reduceAdd] at F))  | (at_make; refine wpList_make rfl S _ _ _ rfl 3 _ 1 8 Try.underlying53 infoInt _ N rfl rfl rfl (by omega) (by simp only [maxLen]; omega) ?_; intro g w L hM T; clear F S; (try rw [HL.out] at hM); clear HL; (try simp [Act.put, Act.eval, Value.cells, splice] at hM); have HL := Lib.hid hM; clear hM; have S := T; clear T; have F := factsAll HL S; (try simp only [factsOf, cellsFrom, and_true, true_and, Nat.reduceAdd] at F)))
  ((try simp only [Exit.inBlock, Exit.then]); refine ret1 rfl (resCell S HL 1 rfl rfl (by kernel_rfl)) rfl ?_)
  exact ⟨_, rfl, (by rw [HL.out] at S; exact S.sub (by repeat (first | exact .refl _ | exact List.nil_sublist _ | apply List.Sublist.cons_cons | apply List.Sublist.cons)))⟩
theorem C_rowOf (R C r N cap b off m : Nat) (w0 : World) (hr : r < R) (hR : R ≤ 5) (hC1 : 1 ≤ C) (hC : C ≤ 5) (hm : r * C = m) (hN : R * C = N) (hN2 : N ≤ cap) (hc : cap ≤ maxLen) :
    Calls Try.prog 161 #[.agg #[.int .i64 R, .int .i64 C, .slice (some ⟨b, off, none⟩) N cap], .int .i64 r] w0 fun e w' => e = .returned (.slice (some ⟨b, off + m, none⟩) C (cap - m)) ∧ Below w0.heap.size w0 w' := by
  have h1 : m + C ≤ N := by
    have : (r + 1) * C ≤ R * C := Nat.mul_le_mul_right _ hr
    rw [Nat.succ_mul, hm, hN] at this
    exact this
  have h2 : m ≤ 25 := by
    have : r * C ≤ 5 * 5 := Nat.mul_le_mul (by omega) hC
    omega
  have w1 : (r : Int) * (C : Int) = (m : Int) := by rw [← hm, Int.natCast_mul]
  have w2 : ((r : Int) + 1) * (C : Int) = ((m + C : Nat) : Int) := by rw [Int.add_mul, w1]; omega
  unfold maxLen at hc
  clear hm hN
  obtain ⟨L, HL, S⟩ := st_start w0; have F : True := trivial
  go_enter Try.func161, Try.ntmps161
  have hne : ¬ cap = m := by omega
  go_wp2_with (first | (refine wpList_box rfl S _ _ rfl ?_; intro g w L hM T; clear F S; (try rw [HL.out] at hM); clear HL; (try simp [Act.put, Act.eval, Value.cells, splice] at hM); have HL := Lib.hid hM; clear hM; have S := T; clear T; have F := factsAll HL S; (try simp only [factsOf, cellsFrom, and_true, true_and, Nat.reduceAdd] at F))  | (refine wpList_store_box rfl S _ _ _ rfl 0 _ _ _ _ (atOf HL rfl) rfl _ rfl (by kernel_rfl) rfl rfl ?_; intro w L hM T; clear F S; (try rw [HL.out] at hM); clear HL; (try simp [Act.put, Act.eval, Value.cells, splice] at hM); have HL := Lib.hid hM; clear hM; have S := T; clear T; have F := factsAll HL S; (try simp only [factsOf, cellsFrom, and_true, true_and, Nat.reduceAdd] at F)) | (refine wpList_store_box rfl S _ _ _ rfl 1 _ _ _ _ (atOf HL rfl) rfl _ rfl (by kernel_rfl) rfl rfl ?_; intro w L hM T; clear F S; (try rw [HL.out] at hM); clear HL; (try simp [Act.put, Act.eval, Value.cells, splice] at hM); have HL := Lib.hid hM; clear hM; have S := T; clear T; have F := factsAll HL S; (try simp only [factsOf, cellsFrom, and_true, true_and, Nat.reduceAdd] at F)) | (refine wpList_store_box rfl S _ _ _ rfl 2 _ _ _ _ (atOf HL rfl) rfl _ rfl (by kernel_rfl) rfl rfl ?_; intro w L hM T; clear F S; (try rw [HL.out] at hM); clear HL; (try simp [Act.put, Act.eval, Value.cells, splice] at hM); have HL := Lib.hid hM; clear hM; have S := T; clear T; have F := factsAll HL S; (try simp only [factsOf, cellsFrom, and_true, true_and, Nat.reduceAdd] at F)) | (refine wpList_store_box rfl S _ _ _ rfl 3 _ _ _ _ (atOf HL rfl) rfl _ rfl (by kernel_rfl) rfl rfl ?_; intro w L hM T; clear F S; (try rw [HL.out] at hM); clear HL; (try simp [Act.put, Act.eval, Value.cells, splice] at hM); have HL := Lib.hid hM; clear hM; have S := T; clear T; have F := factsAll HL S; (try simp only [factsOf, cellsFrom, and_true, true_and, Nat.reduceAdd] at F))  )
  simp only [Nat.add_sub_cancel_left]
  go_ret
  exact ⟨rfl, S.below⟩
theorem C_impl_TurnMatrix (r c : Int) (xs : List Int) (v : Value) (t : Mx) (w0 : World) (h : Ints w0 v xs) (ht : turnMx ⟨r, c, xs⟩ = t) :
    Calls Try.prog 171 #[.agg #[.int .i64 r, .int .i64 c, v]] w0 (MakesMx w0 t.r t.c t.xs) := by
  unfold MakesMx
  have H := Lib.hid h
  obtain ⟨_, A, cap, rfl, hcap, hmax, hA⟩ := h
  cases hv : (Mx.mk r c xs).ok with
  | false =>
    obtain rfl : t = Mx.zero := ht ▸ turnMx_not hv
    clear ht
    obtain ⟨L, HL, S⟩ := st_start w0; have F : True := trivial
    go_enter Try.func171, Try.ntmps171
    go_wp2_with (first | (refine wpList_box rfl S _ _ rfl ?_; intro g w L hM T; clear F S; (try rw [HL.out] at hM); clear HL; (try simp [Act.put, Act.eval, Value.cells, splice] at hM); have HL := Lib.hid hM; clear hM; have S := T; clear T; have F := factsAll HL S; (try simp only [factsOf, cellsFrom, and_true, true_and, Nat.reduceAdd] at F)) | (refine wpList_alloc rfl S 55 _ rfl zMx ?_; intro g w L hM T; clear F S; (try rw [HL.out] at hM); clear HL; (try simp [Act.put, Act.eval, Value.cells, splice] at hM); have HL := Lib.hid hM; clear hM; have S := T; clear T; have F := factsAll HL S; (try simp only [factsOf, cellsFrom, and_true, true_and, Nat.reduceAdd] at F)) | (refine wpList_store_box rfl S _ _ _ rfl 0 _ _ _ _ (atOf HL rfl) rfl _ rfl (by kernel_rfl) rfl rfl ?_; intro w L hM T; clear F S; (try rw [HL.out] at hM); clear HL; (try simp [Act.put, Act.eval, Value.cells, splice] at hM); have HL := Lib.hid hM; clear hM; have S := T; clear T; have F := factsAll HL S; (try simp only [factsOf, cellsFrom, and_true, true_and, Nat.reduceAdd] at F)) | (refine wpList_store_box rfl S _ _ _ rfl 1 _ _ _ _ (atOf HL rfl) rfl _ rfl (by kernel_rfl) rfl rfl ?_; intro w L hM T; clear F S; (try rw [HL.out] at hM); clear HL; (try simp [Act.put, Act.eval, Value.cells, splice] at hM); have HL := Lib.hid hM; clear hM; have S := T; clear T; have F := factsAll HL S; (try simp only [factsOf, cellsFrom, and_true, true_and, Nat.reduceAdd] at F)) | (refine wpList_store_box rfl S _ _ _ rfl 2 _ _ _ _ (atOf HL rfl) rfl _ rfl (by kernel_rfl) rfl rfl ?_; intro w L hM T; clear F S; (try rw [HL.out] at hM); clear HL; (try simp [Act.put, Act.eval, Value.cells, splice] at hM); have HL := Lib.hid hM; clear hM; have S := T; clear T; have F := factsAll HL S; (try simp only [factsOf, cellsFrom, and_true, true_and, Nat.reduceAdd] at F)) | (refine wpList_store_box rfl S _ _ _ rfl 3 _ _ _ _ (atOf HL rfl) rfl _ rfl (by kernel_rfl) rfl rfl ?_; intro w L hM T; clear F S; (try rw [HL.out] at hM); clear HL; (try simp [Act.put, Act.eval, Value.cells, splice] at hM); have HL := Lib.hid hM; clear hM; have S := T; clear T; have F := factsAll HL S; (try simp only [factsOf, cellsFrom, and_true, true_and, Nat.reduceAdd] at F))  | (go_at_call 62; refine (C_impl_MatrixValid _ _ _ _ _ _ (by exact H.out.at_ S) (by exact hv)).mono ?_; rintro e w ⟨rfl, hb⟩; replace S := S.grow hb; clear hb))
    ((try simp only [Exit.inBlock, Exit.then]); refine ret1 rfl (resCell S HL 0 rfl rfl (by kernel_rfl)) rfl ?_)
    exact ⟨_, rfl, S.nilMx _⟩
  | true =>
    obtain ⟨R, C, N, e0, r1, r2, c1, c2, hRC, hN, hN2, hall⟩ := Mx.ok_nat hv
    obtain ⟨rfl, rfl⟩ : r = R ∧ c = C := by injection e0 with e1 e2 _; exact ⟨e1, e2⟩
    clear e0
    rw [turnMx_ok hv] at ht
    subst ht
    have HV := Lib.hid hv
    clear hv
    dsimp only at hN hall ⊢
    clear hall
    rw [hN] at hcap hA
    have hN0 : 0 < N := by rw [← hRC]; exact Nat.mul_pos (by omega) (by omega)
    obtain ⟨b, off, rfl, hb, hcell⟩ := hA hN0
    have HA := Lib.hid hcell
    clear hcell hA
    have CE := fun w => C_emptyMatrix C R N w (by rw [Nat.mul_comm]; exact hRC) hN2
    unfold MakesMx at CE
    rw [tab_length] at CE
    have HZ : tab N (fun _ => 0) = turnTo R C xs 0 0 := by rw [turnTo_zero, Nat.mul_comm C R, hRC]
    rw [HZ] at CE
    have HZ' := Lib.hid HZ
    have HRC := Lib.hid hRC
    have HN := Lib.hid hN
    rw [HN.out] at H ⊢
    clear hRC HZ hN HZ'
    rw [tab_length, Nat.mul_comm C R, HRC.out]
    obtain ⟨L, HL, S⟩ := st_start w0; have F : True := trivial
    go_enter Try.func171, Try.ntmps171
    go_upto_region 1 with (first | (refine wpList_box rfl S _ _ rfl ?_; intro gm w L hM T; clear F S; (try rw [HL.out] at hM); clear HL; (try simp [Act.put, Act.eval, Value.cells, splice] at hM); have HL := Lib.hid hM; clear hM; have S := T; clear T; have F := factsAll HL S; (try simp only [factsOf, cellsFrom, and_true, true_and, Nat.reduceAdd] at F)) | (refine wpList_alloc rfl S 55 _ rfl zMx ?_; intro gr w L hM T; clear F S; (try rw [HL.out] at hM); clear HL; (try simp [Act.put, Act.eval, Value.cells, splice] at hM); have HL := Lib.hid hM; clear hM; have S := T; clear T; have F := factsAll HL S; (try simp only [factsOf, cellsFrom, and_true, true_and, Nat.reduceAdd] at F)))
    go_upto_region 4 with (first | (refine wpList_alloc rfl S 55 _ rfl zMx ?_; intro g3 w L hM T; clear F S; (try rw [HL.out] at hM); clear HL; (try simp [Act.put, Act.eval, Value.cells, splice] at hM); have HL := Lib.hid hM; clear hM; have S := T; clear T; have F := factsAll HL S; (try simp only [factsOf, cellsFrom, and_true, true_and, Nat.reduceAdd] at F)) | (refine wpList_store_box rfl S _ _ _ rfl 0 _ _ _ _ (atOf HL rfl) rfl _ rfl (by kernel_rfl) rfl rfl ?_; intro w L hM T; clear F S; (try rw [HL.out] at hM); clear HL; (try simp [Act.put, Act.eval, Value.cells, splice] at hM); have HL := Lib.hid hM; clear hM; have S := T; clear T; have F := factsAll HL S; (try simp only [factsOf, cellsFrom, and_true, true_and, Nat.reduceAdd] at F)) | (refine wpList_store_box rfl S _ _ _ rfl 1 _ _ _ _ (atOf HL rfl) rfl _ rfl (by kernel_rfl) rfl rfl ?_; intro w L hM T; clear F S; (try rw [HL.out] at hM); clear HL; (try simp [Act.put, Act.eval, Value.cells, splice] at hM); have HL := Lib.hid hM; clear hM; have S := T; clear T; have F := factsAll HL S; (try simp only [factsOf, cellsFrom, and_true, true_and, Nat.reduceAdd] at F)) | (refine wpList_store_box rfl S _ _ _ rfl 2 _ _ _ _ (atOf HL rfl) rfl _ rfl (by kernel_rfl) rfl rfl ?_; intro w L hM T; clear F S; (try rw [HL.out] at hM); clear HL; (try simp [Act.put, Act.eval, Value.cells, splice] at hM); have HL := Lib.hid hM; clear hM; have S := T; clear T; have F := factsAll HL S; (try simp only [factsOf, cellsFrom, and_true, true_and, Nat.reduceAdd] at F)) | (refine wpList_store_box rfl S _ _ _ rfl 3 _ _ _ _ (atOf HL rfl) rfl _ rfl (by kernel_rfl) rfl rfl ?_; intro w L hM T; clear F S; (try rw [HL.out] at hM); clear HL; (try simp [Act.put, Act.eval, Value.cells, splice] at hM); have HL := Lib.hid hM; clear hM; have S := T; clear T; have F := factsAll HL S; (try simp only [factsOf, cellsFrom, and_true, true_and, Nat.reduceAdd] at F)) | (go_at_call 126; refine (CE _).mono ?_; rintro e w ⟨u, rfl, T0⟩; obtain ⟨L, hM, T⟩ := st_name (S.call T0); clear T0; clear F S; (try rw [HL.out] at hM); clear HL; (try simp [Act.put, Act.eval, Value.cells, splice] at hM); have HL := Lib.hid hM; clear hM; have S := T; clear T; have F := factsAll HL S; (try simp only [factsOf, cellsFrom, and_true, true_and, Nat.reduceAdd] at F); obtain ⟨A', cap', rfl, hcap', hmax'⟩ := S.sliceOf (atOf HL (p := 0) rfl)) | (go_at_call 62; refine (C_impl_MatrixValid _ _ _ _ _ _ (by exact H.out.at_ S) (by exact HV.out)).mono ?_; rintro e w ⟨rfl, hb⟩; replace S := S.grow hb; clear hb))
    obtain ⟨gn, cn, ev, hcv, hmv⟩ := S.rowAt (p := 1) (atOf HL rfl) hN0
    obtain ⟨rfl, rfl⟩ : A' = some ⟨gn, 0, none⟩ ∧ cap' = cn := by injection ev with e1 _ e3; exact ⟨e1, e3⟩
    clear ev CE
    go_wp2
    go_loopw [18] (fun i wr => ∃ (j : Nat) (L : List Ent), j ≤ R ∧ i = .int .i64 j ∧ Hid (L = [.box g3 55 [.int .i64 C, .int .i64 R, .slice (some ⟨gn, 0, none⟩) N cap'], .row 3 1 (.slice (some ⟨gn, 0, none⟩) N cap') N (ints (turnTo R C xs j 0)), .box gr 55 [.int .i64 0, .int .i64 0, .slice none 0 0], .box gm 55 [.int .i64 R, .int .i64 C, .slice (some ⟨b, off, none⟩) N cap]]) ∧ St w0 wr L) (fun i _ => R - (intOf i).toNat)
    case atStart => exact ⟨0, L, Nat.zero_le _, rfl, HL, S⟩
    case round =>
      clear F HL S
      obtain ⟨j, L, hj, rfl, HL, S⟩ := hrel
      have F := factsAll HL S
      simp only [factsOf, cellsFrom, and_true, true_and, Nat.reduceAdd] at F
      by_cases hlt : j < R
      · obtain ⟨m1, hm1⟩ : ∃ m1, j * C = m1 := ⟨_, rfl⟩
        have HM1 := Lib.hid hm1
        have CR := fun w => C_rowOf R C j N cap b off m1 w hlt r2 c1 c2 hm1 HRC.out hcap hmax
        clear hm1
        go_wp2_with (first | (go_at_call 161; refine (CR _).mono ?_; rintro e w ⟨rfl, hb⟩; replace S := S.grow hb; clear hb))
        clear CR
        go_loopw [25] (fun i wr => ∃ (k : Nat) (L : List Ent), k ≤ C ∧ i = .int .i64 k ∧ Hid (L = [.box g3 55 [.int .i64 C, .int .i64 R, .slice (some ⟨gn, 0, none⟩) N cap'], .row 3 1 (.slice (some ⟨gn, 0, none⟩) N cap') N (ints (turnTo R C xs j k)), .box gr 55 [.int .i64 0, .int .i64 0, .slice none 0 0], .box gm 55 [.int .i64 R, .int .i64 C, .slice (some ⟨b, off, none⟩) N cap]]) ∧ St w0 wr L) (fun i _ => C - (intOf i).toNat)
        case atStart => exact ⟨0, L, Nat.zero_le _, rfl, HL, S⟩
        case round =>
          clear F HL S
          obtain ⟨k, L, hk, rfl, HL, S⟩ := hrel
          have F := factsAll HL S
          simp only [factsOf, cellsFrom, and_true, true_and, Nat.reduceAdd] at F
          by_cases hlt2 : k < C
          · have hq : m1 + k < N := by rw [← HM1.out, ← HRC.out]; exact cell_lt hlt hlt2
            have hT := turnTo_set R C xs j k hlt hlt2
            rw [HM1.out] at hT
            have c0 := (S.below.cell (p := ⟨b, off + (m1 + k), none⟩) hb).trans (HA.out (m1 + k) _ (ints_getD xs (m1 + k) (by rw [HN.out]; exact hq)))
            rw [← Nat.add_assoc] at c0
            generalize xs.getD (m1 + k) 0 = x at hT c0
            have hq2 : k * R + j < N := by rw [← HRC.out, Nat.mul_comm R C]; exact cell_lt hlt2 hlt
            obtain ⟨m2, hm2⟩ : ∃ m2, k * R = m2 := ⟨_, rfl⟩
            rw [hm2] at hq2 hT
            have w1 : (k : Int) * (R : Int) = (m2 : Int) := by rw [← hm2, Int.natCast_mul]
            have HT := Lib.hid hT
            clear hT hm2
            go_wp2_with (first | (refine wpList_store_row rfl S _ _ _ rfl 1 _ _ _ _ _ _ _ (atOf HL rfl) rfl _ rfl (by kernel_rfl) rfl (by omega) ?_; intro w L hM T; clear F S; (try rw [HL.out] at hM); clear HL; (try simp [Act.put, Act.eval, Value.cells, splice] at hM); have HL := Lib.hid hM; clear hM; have S := T; clear T; have F := factsAll HL S; (try simp only [factsOf, cellsFrom, and_true, true_and, Nat.reduceAdd] at F)))
            go_roundw
            case rel => exact ⟨k + 1, L, by omega, by go_num, by rw [← HT.out, ints_set]; exact HL, S⟩
            case measure => simp [intOf]; omega
          · obtain rfl : k = C := by omega
            go_wp2
            go_roundw
            case rel => exact ⟨j + 1, L, by omega, by go_num, by rw [← turnTo_row]; exact HL, S⟩
            case measure => simp [intOf]; omega
      · obtain rfl : j = R := by omega
        go_wp2_with (first | (refine wpList_store_box rfl S _ _ _ rfl 2 _ _ _ _ (atOf HL rfl) rfl _ rfl (by kernel_rfl) rfl rfl ?_; intro w L hM T; clear F S; (try rw [HL.out] at hM); clear HL; (try simp [Act.put, Act.eval, Value.cells, splice] at hM); have HL := Lib.hid hM; clear hM; have S := T; clear T; have F := factsAll HL S; (try simp only [factsOf, cellsFrom, and_true, true_and, Nat.reduceAdd] at F)))
        ((try simp only [Exit.inBlock, Exit.then]); refine ret1 rfl (resCell S HL 2 rfl rfl (by kernel_rfl)) rfl ?_)
        refine ⟨_, rfl, ?_⟩
        rw [← HRC.out, Nat.mul_comm j C, ← turnTo_full, Nat.mul_comm C j, HRC.out]
        exact (by rw [HL.out] at S; exact S.sub (by repeat (first | exact .refl _ | exact List.nil_sublist _ | apply List.Sublist.cons_cons | apply List.Sublist.cons)))
end Go.Proofs.Ytdfpceobfficfaa
