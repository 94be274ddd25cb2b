/-
  Contracts: sums of matrices (the program's), light.
-/
import Derived.Test.YtdfpceobfficfaaMxP
import Derived.Test.YtdfpceobfficfaaMatU
namespace Go.Proofs.Ytdfpceobfficfaa
set_option linter.unusedSimpArgs false
set_option linter.unusedVariables false
set_option linter.unusedSectionVars false
open Go Go.RowKit
set_option maxHeartbeats 8000000
set_option maxRecDepth 20000
theorem like_partsL {r c : Int} {xs : List Int} {r' c' : Int} {ys : List Int} (h : likeMx ⟨r, c, xs⟩ ⟨r', c', ys⟩ = true) :
    ∃ R C N : Nat, r = R ∧ c = C ∧ r' = R ∧ c' = C ∧ 1 ≤ R ∧ R ≤ 5 ∧ 1 ≤ C ∧ C ≤ 5 ∧ R * C = N ∧ xs.length = N ∧ ys.length = N ∧ N ≤ 25 ∧ xs.all rv = true ∧ ys.all rv = true := by
  simp only [likeMx, Bool.and_eq_true, decide_eq_true_eq] at h
  obtain ⟨⟨⟨h1, h2⟩, h3⟩, h4⟩ := h
  obtain ⟨R, C, N, e0, r1, r2, c1, c2, hRC, hN, hN2, hall⟩ := Mx.ok_nat h1
  obtain ⟨e1, e2⟩ : r = R ∧ c = C := by injection e0 with e1 e2 _; exact ⟨e1, e2⟩
  obtain ⟨R', C', N', e0', _, _, _, _, hRC', hN', _, hall'⟩ := Mx.ok_nat h2
  obtain ⟨e1', e2'⟩ : r' = R' ∧ c' = C' := by injection e0' with e1 e2 _; exact ⟨e1, e2⟩
  have hr : R' = R := by
    have : (R' : Int) = R := by rw [← e1', ← h3, e1]
    exact Int.ofNat.inj this
  have hc : C' = C := by
    have : (C' : Int) = C := by rw [← e2', ← h4, e2]
    exact Int.ofNat.inj this
  subst hr hc
  exact ⟨R', C', N, e1, e2, e1', e2', r1, r2, c1, c2, hRC, hN, by rw [← hRC, hRC']; exact hN', hN2, hall, hall'⟩
def sumsV (xs ys : List Int) (k : Nat) : Int := addR (xs.getD k 0) (ys.getD k 0)
def sumMx (a b : Mx) : Mx := if likeMx a b then ⟨a.r, a.c, tab a.xs.length (sumsV a.xs b.xs)⟩ else Mx.zero
theorem sumMx_not {a b : Mx} (h : likeMx a b = false) : sumMx a b = Mx.zero := by simp [sumMx, h]
theorem sumMx_ok {a b : Mx} (h : likeMx a b = true) : sumMx a b = ⟨a.r, a.c, tab a.xs.length (sumsV a.xs b.xs)⟩ := by simp [sumMx, h]
theorem C_AddRingL (a b q : Int) (w0 : World) (h : addR a b = q) : Calls Try.prog 107 #[.int .i64 a, .int .i64 b] w0 fun e w' => e = .returned (.int .i64 q) ∧ w0 = w' := h ▸ C_impl_AddRing a b w0
theorem C_pairAddL (r c : Int) (xs : List Int) (r' c' : Int) (ys : List Int) (u v : Value) (t : Mx) (w0 : World) (h : Ints w0 u xs) (h' : Ints w0 v ys) (ht : sumMx ⟨r, c, xs⟩ ⟨r', c', ys⟩ = t) :
    Calls Try.prog 106 #[.agg #[.int .i64 r, .int .i64 c, u], .agg #[.int .i64 r', .int .i64 c', v], .func (.func 107) #[] #[]] w0 (MakesMx w0 t.r t.c t.xs) := by
  unfold MakesMx
  have HU := Lib.hid h
  have HV := Lib.hid h'
  obtain ⟨_, A1, k1, rfl, hk1, hm1, hA1⟩ := h
  obtain ⟨_, A2, k2, rfl, hk2, hm2, hA2⟩ := h'
  cases hl : likeMx ⟨r, c, xs⟩ ⟨r', c', ys⟩ with
  | false =>
    obtain rfl : t = Mx.zero := ht ▸ sumMx_not hl
    clear ht hA1 hA2
    have hb' : ((Mx.mk r c xs).ok && (Mx.mk r' c' ys).ok && (decide (r = r') && decide (c = c'))) = false := by rw [← Bool.and_assoc]; exact hl
    clear hl
    cases h1 : (Mx.mk r c xs).ok with
    | false =>
      clear hb'
      obtain ⟨L, HL, S⟩ := st_start w0; have F : True := trivial
      go_enter Try.func106, Try.ntmps106
      go_upto_region 1 with (first | (refine wpList_box rfl S _ _ rfl ?_; intro g w L hM T; clear F S; (try rw [HL.out] at hM); clear HL; (try simp [Act.put, Act.eval, Value.cells, splice] at hM); have HL := Lib.hid hM; clear hM; have S := T; clear T; have F := factsAll HL S; (try simp only [factsOf, cellsFrom, and_true, true_and, Nat.reduceAdd] at F)) | (refine wpList_alloc rfl S 55 _ rfl zMx ?_; intro g w L hM T; clear F S; (try rw [HL.out] at hM); clear HL; (try simp [Act.put, Act.eval, Value.cells, splice] at hM); have HL := Lib.hid hM; clear hM; have S := T; clear T; have F := factsAll HL S; (try simp only [factsOf, cellsFrom, and_true, true_and, Nat.reduceAdd] at F)))
      go_upto_region 2 with (first | (go_at_call 62; refine (C_impl_MatrixValid _ _ _ _ _ _ (by exact HU.out.at_ S) (by exact h1)).mono ?_; rintro e w ⟨rfl, hb⟩; replace S := S.grow hb; clear hb))
      go_wp2_with (first | (refine wpList_store_box rfl S _ _ _ rfl 0 _ _ _ _ (atOf HL rfl) rfl _ rfl (by kernel_rfl) rfl rfl ?_; intro w L hM T; clear F S; (try rw [HL.out] at hM); clear HL; (try simp [Act.put, Act.eval, Value.cells, splice] at hM); have HL := Lib.hid hM; clear hM; have S := T; clear T; have F := factsAll HL S; (try simp only [factsOf, cellsFrom, and_true, true_and, Nat.reduceAdd] at F)))
      ((try simp only [Exit.inBlock, Exit.then]); refine ret1 rfl (resCell S HL 0 rfl rfl (by kernel_rfl)) rfl ?_)
      exact ⟨_, rfl, S.nilMx _⟩
    | true =>
    cases h2 : (Mx.mk r' c' ys).ok with
    | false =>
      clear hb'
      obtain ⟨L, HL, S⟩ := st_start w0; have F : True := trivial
      go_enter Try.func106, Try.ntmps106
      go_upto_region 1 with (first | (refine wpList_box rfl S _ _ rfl ?_; intro g w L hM T; clear F S; (try rw [HL.out] at hM); clear HL; (try simp [Act.put, Act.eval, Value.cells, splice] at hM); have HL := Lib.hid hM; clear hM; have S := T; clear T; have F := factsAll HL S; (try simp only [factsOf, cellsFrom, and_true, true_and, Nat.reduceAdd] at F)) | (refine wpList_alloc rfl S 55 _ rfl zMx ?_; intro g w L hM T; clear F S; (try rw [HL.out] at hM); clear HL; (try simp [Act.put, Act.eval, Value.cells, splice] at hM); have HL := Lib.hid hM; clear hM; have S := T; clear T; have F := factsAll HL S; (try simp only [factsOf, cellsFrom, and_true, true_and, Nat.reduceAdd] at F)))
      go_upto_region 2 with (first | (go_at_call 62; refine (C_impl_MatrixValid _ _ _ _ _ _ (by first | exact HU.out.at_ S | exact HV.out.at_ S) (by first | exact h1 | exact h2)).mono ?_; rintro e w ⟨rfl, hb⟩; replace S := S.grow hb; clear hb))
      go_wp2_with (first | (refine wpList_store_box rfl S _ _ _ rfl 0 _ _ _ _ (atOf HL rfl) rfl _ rfl (by kernel_rfl) rfl rfl ?_; intro w L hM T; clear F S; (try rw [HL.out] at hM); clear HL; (try simp [Act.put, Act.eval, Value.cells, splice] at hM); have HL := Lib.hid hM; clear hM; have S := T; clear T; have F := factsAll HL S; (try simp only [factsOf, cellsFrom, and_true, true_and, Nat.reduceAdd] at F)))
      ((try simp only [Exit.inBlock, Exit.then]); refine ret1 rfl (resCell S HL 0 rfl rfl (by kernel_rfl)) rfl ?_)
      exact ⟨_, rfl, S.nilMx _⟩
    | true =>
      rw [h1, h2, Bool.true_and, Bool.true_and] at hb'
      have H1 := Lib.hid h1
      have H2 := Lib.hid h2
      have H3 := Lib.hid hb'
      clear h1 h2 hb'
      obtain ⟨L, HL, S⟩ := st_start w0; have F : True := trivial
      go_enter Try.func106, Try.ntmps106
      go_upto_region 1 with (first | (refine wpList_box rfl S _ _ rfl ?_; intro g w L hM T; clear F S; (try rw [HL.out] at hM); clear HL; (try simp [Act.put, Act.eval, Value.cells, splice] at hM); have HL := Lib.hid hM; clear hM; have S := T; clear T; have F := factsAll HL S; (try simp only [factsOf, cellsFrom, and_true, true_and, Nat.reduceAdd] at F)) | (refine wpList_alloc rfl S 55 _ rfl zMx ?_; intro g w L hM T; clear F S; (try rw [HL.out] at hM); clear HL; (try simp [Act.put, Act.eval, Value.cells, splice] at hM); have HL := Lib.hid hM; clear hM; have S := T; clear T; have F := factsAll HL S; (try simp only [factsOf, cellsFrom, and_true, true_and, Nat.reduceAdd] at F)))
      go_upto_region 2 with (first | (go_at_call 62; refine (C_impl_MatrixValid _ _ _ _ _ _ (by first | exact HU.out.at_ S | exact HV.out.at_ S) (by first | exact H1.out | exact H2.out)).mono ?_; rintro e w ⟨rfl, hb⟩; replace S := S.grow hb; clear hb) | (go_at_call 110; refine (C_sameSides _ _ _ _ _ _ _ _ H3.out).mono ?_; rintro e w ⟨rfl, hb⟩; replace S := S.grow hb; clear hb))
      go_wp2_with (first | (refine wpList_store_box rfl S _ _ _ rfl 0 _ _ _ _ (atOf HL rfl) rfl _ rfl (by kernel_rfl) rfl rfl ?_; intro w L hM T; clear F S; (try rw [HL.out] at hM); clear HL; (try simp [Act.put, Act.eval, Value.cells, splice] at hM); have HL := Lib.hid hM; clear hM; have S := T; clear T; have F := factsAll HL S; (try simp only [factsOf, cellsFrom, and_true, true_and, Nat.reduceAdd] at F)))
      ((try simp only [Exit.inBlock, Exit.then]); refine ret1 rfl (resCell S HL 0 rfl rfl (by kernel_rfl)) rfl ?_)
      exact ⟨_, rfl, S.nilMx _⟩
  | true =>
    rw [sumMx_ok hl] at ht
    subst ht
    dsimp only
    obtain ⟨R, C, N, e1, e2, e3, e4, r1, r2, c1, c2, hRC, hN, hN', hN2, _, _⟩ := like_partsL hl
    subst e1 e2 e3 e4
    simp only [likeMx, Bool.and_eq_true, decide_eq_true_eq] at hl
    obtain ⟨⟨⟨h1, h2⟩, _⟩, _⟩ := hl
    have H1 := Lib.hid h1
    have H2 := Lib.hid h2
    clear h1 h2
    have hN0 : 0 < N := by rw [← hRC]; exact Nat.mul_pos (by omega) (by omega)
    obtain ⟨ba, oa, rfl, hba, hca⟩ := hA1 (by omega)
    obtain ⟨bb, ob, rfl, hbb, hcb⟩ := hA2 (by omega)
    have HCA := Lib.hid hca
    have HCB := Lib.hid hcb
    have HN := Lib.hid hN
    have HN' := Lib.hid hN'
    have HNC := Lib.hid hRC
    clear hA1 hA2 hca hcb hN hN' hRC
    have CE := fun w => C_emptyMatrix R C N w HNC.out hN2
    unfold MakesMx at CE
    rw [tab_length] at CE ⊢
    obtain ⟨L, HL, S⟩ := st_start w0; have F : True := trivial
    go_enter Try.func106, Try.ntmps106
    go_upto_region 1 with (first | (refine wpList_box (o := { dst := some 3, op := _, type := _, pos := _, after := _, guard := _ }) rfl S _ _ rfl ?_; intro ga w L hM T; clear F S; (try rw [HL.out] at hM); clear HL; (try simp [Act.put, Act.eval, Value.cells, splice] at hM); have HL := Lib.hid hM; clear hM; have S := T; clear T; have F := factsAll HL S; (try simp only [factsOf, cellsFrom, and_true, true_and, Nat.reduceAdd] at F)) | (refine wpList_box (o := { dst := some 4, op := _, type := _, pos := _, after := _, guard := _ }) rfl S _ _ rfl ?_; intro gb w L hM T; clear F S; (try rw [HL.out] at hM); clear HL; (try simp [Act.put, Act.eval, Value.cells, splice] at hM); have HL := Lib.hid hM; clear hM; have S := T; clear T; have F := factsAll HL S; (try simp only [factsOf, cellsFrom, and_true, true_and, Nat.reduceAdd] at F)) | (refine wpList_alloc rfl S 55 _ rfl zMx ?_; intro gr w L hM T; clear F S; (try rw [HL.out] at hM); clear HL; (try simp [Act.put, Act.eval, Value.cells, splice] at hM); have HL := Lib.hid hM; clear hM; have S := T; clear T; have F := factsAll HL S; (try simp only [factsOf, cellsFrom, and_true, true_and, Nat.reduceAdd] at F)))
    go_upto_region 3 with (first | (go_at_call 62; refine (C_impl_MatrixValid _ _ _ _ _ _ (by first | exact HU.out.at_ S | exact HV.out.at_ S) (by first | exact H1.out | exact H2.out)).mono ?_; rintro e w ⟨rfl, hb⟩; replace S := S.grow hb; clear hb) | (go_at_call 110; refine (C_sameSides _ _ _ _ _ _ true _ (by simp)).mono ?_; rintro e w ⟨rfl, hb⟩; replace S := S.grow hb; clear hb))
    go_upto_region 4 with (first | (refine wpList_alloc rfl S 55 _ rfl zMx ?_; intro g7 w L hM T; clear F S; (try rw [HL.out] at hM); clear HL; (try simp [Act.put, Act.eval, Value.cells, splice] at hM); have HL := Lib.hid hM; clear hM; have S := T; clear T; have F := factsAll HL S; (try simp only [factsOf, cellsFrom, and_true, true_and, Nat.reduceAdd] at F)) | (refine wpList_store_box rfl S _ _ _ rfl 0 _ _ _ _ (atOf HL rfl) rfl _ rfl (by kernel_rfl) rfl rfl ?_; intro w L hM T; clear F S; (try rw [HL.out] at hM); clear HL; (try simp [Act.put, Act.eval, Value.cells, splice] at hM); have HL := Lib.hid hM; clear hM; have S := T; clear T; have F := factsAll HL S; (try simp only [factsOf, cellsFrom, and_true, true_and, Nat.reduceAdd] at F)) | (go_at_call 126; refine (CE _).mono ?_; rintro e w ⟨u, rfl, T0⟩; obtain ⟨L, hM, T⟩ := st_name (S.call T0); clear T0; clear F S; (try rw [HL.out] at hM); clear HL; (try simp [Act.put, Act.eval, Value.cells, splice] at hM); have HL := Lib.hid hM; clear hM; have S := T; clear T; have F := factsAll HL S; (try simp only [factsOf, cellsFrom, and_true, true_and, Nat.reduceAdd] at F); obtain ⟨A', cap', rfl, hcap', hmax'⟩ := S.sliceOf (atOf HL (p := 0) rfl)))
    obtain ⟨gn, cn, ev, hcv, hmv⟩ := S.rowAt (p := 1) (atOf HL rfl) hN0
    obtain ⟨rfl, rfl⟩ : A' = some ⟨gn, 0, none⟩ ∧ cap' = cn := by injection ev with e1 _ e3; exact ⟨e1, e3⟩
    clear ev CE
    go_wp2
    go_loopw [33] (fun i wr => ∃ (k : Nat) (L : List Ent), k ≤ N ∧ i = .int .i64 k ∧ Hid (L = [.box g7 55 [.int .i64 R, .int .i64 C, .slice (some ⟨gn, 0, none⟩) N cap'], .row 3 1 (.slice (some ⟨gn, 0, none⟩) N cap') N (ints (tab N fun q => if q < k then sumsV xs ys q else 0)), .box gr 55 [.int .i64 0, .int .i64 0, .slice none 0 0], .box gb 55 [.int .i64 R, .int .i64 C, .slice (some ⟨bb, ob, none⟩) ys.length k2], .box ga 55 [.int .i64 R, .int .i64 C, .slice (some ⟨ba, oa, none⟩) xs.length k1]]) ∧ St w0 wr L) (fun i _ => N - (intOf i).toNat)
    case atStart => exact ⟨0, L, Nat.zero_le _, rfl, Lib.hid (by rw [HL.out, fil_zero]), S⟩
    case round =>
      clear F HL S
      obtain ⟨k, L, hk, rfl, HL, S⟩ := hrel
      have F := factsAll HL S
      simp only [factsOf, cellsFrom, and_true, true_and, Nat.reduceAdd] at F
      by_cases hlt : k < N
      · have hlx : k < xs.length := by rw [HN.out]; exact hlt
        have hly : k < ys.length := by rw [HN'.out]; exact hlt
        have c0 := (S.below.cell (p := ⟨ba, oa + k, none⟩) hba).trans (HCA.out k _ (ints_getD xs k hlx))
        have D1 := Lib.hid (HCB.out k _ (ints_getD ys k hly))
        have ea := fil_set (sumsV xs ys) N k
        have eq : addR (xs.getD k 0) (ys.getD k 0) = sumsV xs ys k := rfl
        generalize xs.getD k 0 = x at c0 eq
        generalize ys.getD k 0 = y at D1 eq
        generalize sumsV xs ys k = z at ea eq
        have EQ := Lib.hid eq
        have EA := Lib.hid ea
        clear ea eq
        go_upto_region 7 with fail
        have d1 := fun w' (S' : St w0 w' L) => (S'.below.cell (p := ⟨bb, ob + k, none⟩) hbb).trans D1.out
        have HL0 := HL; have F0 := F; refine wp_region_tree (S := fun w' => St w0 w' L) (.calm 0 (.calm 1 (.calm 2 (.calm 3 (.calm 4 (.calm 5 (.calm 6 (.calm 7 (.calm 8 (.calm 9 (.act 10 (.calm 11 (.act 12 .fin .stop)) .stop))))))))))) (by kernel_rfl) (by kernel_rfl) (by kernel_rfl) (by intro c a d v w h; cases d <;> exact h) ?_; replace S := S.drew
        repeat (first | (first | (refine tree_calm (v := ?_) ?_ rfl (by decide +kernel) rfl ?_ ?_; rotate_left; (focus (first | exact S | (refine S.sub (subL HL0 HL ?_); (repeat (first | exact List.Sublist.refl _ | apply List.Sublist.cons)); done))); (focus (intro w' hS'; (try dsimp only at hS'); go_simp; try rfl)); (try simp only [Act.put, List.setIfInBounds_toArray, List.set_cons_zero, List.set_cons_succ])) | (refine tree_any (v := ?_) ?_ rfl rfl ?_ ?_; rotate_left; (focus (first | exact S | (refine S.sub (subL HL0 HL ?_); (repeat (first | exact List.Sublist.refl _ | apply List.Sublist.cons)); done))); (focus (intro w'; go_simp; try rfl)); (try simp only [Act.put, List.setIfInBounds_toArray, List.set_cons_zero, List.set_cons_succ]))) | (refine tree_skip ?_ rfl rfl ?_; (focus (first | exact S | (refine S.sub (subL HL0 HL ?_); (repeat (first | exact List.Sublist.refl _ | apply List.Sublist.cons)); done))); (try simp only [Act.put, List.setIfInBounds_toArray, List.set_cons_zero, List.set_cons_succ])) | (refine tree_act rfl rfl ?_ tree_stop; intro K hK; (refine wp_store_row S _ _ _ rfl 1 _ _ _ _ _ _ _ (atOf HL rfl) rfl _ rfl (by kernel_rfl) rfl (by omega) ?_; intro w L hM T; clear F S; (try rw [HL.out] at hM); clear HL; (try simp [Act.put, Act.eval, Value.cells, splice] at hM); have HL := Lib.hid hM; clear hM; have S := T; clear T; have F := factsAll HL S; (try simp only [factsOf, cellsFrom, and_true, true_and, Nat.reduceAdd] at F)); (refine hK.out _ _ ?_ ?_; (focus (first | exact fun _ => S | (intro _; refine S.sub (subL HL0 HL ?_); (repeat (first | exact List.Sublist.refl _ | apply List.Sublist.cons)); done) | (refine sink_no ?_; kernel_rfl))); clear hK K; (try simp only [Act.put, List.setIfInBounds_toArray, List.set_cons_zero, List.set_cons_succ]))) | (refine tree_act rfl rfl ?_ tree_stop; intro K hK; go_wp2_with (first | (go_at_call 107; refine (C_AddRingL _ _ _ _ (by exact EQ.out)).mono ?_; rintro e w' ⟨rfl, rfl⟩)); (refine hK.out _ _ ?_ ?_; (focus (first | exact fun _ => S | (intro _; refine S.sub (subL HL0 HL ?_); (repeat (first | exact List.Sublist.refl _ | apply List.Sublist.cons)); done) | (refine sink_no ?_; kernel_rfl))); clear hK K; (try simp only [Act.put, List.setIfInBounds_toArray, List.set_cons_zero, List.set_cons_succ]))))
        refine tree_fin ?_
        clear HL0 F0 d1
        go_wp2
        go_roundw
        case rel =>
          rw [← ints_set, EA.out] at HL
          exact ⟨k + 1, L, by omega, by go_num, HL, S⟩
        case measure => simp [intOf]; omega
      · obtain rfl : k = N := by omega
        have hlx : ¬ k < xs.length := by rw [HN.out]; omega
        go_wp2_with (first | (refine wpList_store_box rfl S _ _ _ rfl 2 _ _ _ _ (atOf HL rfl) rfl _ rfl (by kernel_rfl) rfl rfl ?_; intro w L hM T; clear F S; (try rw [HL.out] at hM); clear HL; (try simp [Act.put, Act.eval, Value.cells, splice] at hM); have HL := Lib.hid hM; clear hM; have S := T; clear T; have F := factsAll HL S; (try simp only [factsOf, cellsFrom, and_true, true_and, Nat.reduceAdd] at F)))
        ((try simp only [Exit.inBlock, Exit.then]); refine ret1 rfl (resCell S HL 2 rfl rfl (by kernel_rfl)) rfl ?_)
        refine ⟨_, rfl, ?_⟩
        rw [fil_full] at HL
        rw [HN.out]
        exact (by rw [HL.out] at S; exact S.sub (by repeat (first | exact .refl _ | exact List.nil_sublist _ | apply List.Sublist.cons_cons | apply List.Sublist.cons)))
theorem C_impl_AddL (r c : Int) (xs : List Int) (r' c' : Int) (ys : List Int) (u v : Value) (t : Mx) (w0 : World) (h : Ints w0 u xs) (h' : Ints w0 v ys) (ht : sumMx ⟨r, c, xs⟩ ⟨r', c', ys⟩ = t) :
    Calls Try.prog 73 #[.agg #[.int .i64 r, .int .i64 c, u], .agg #[.int .i64 r', .int .i64 c', v]] w0 (MakesMx w0 t.r t.c t.xs) := by
  have CP := fun w h h' => C_pairAddL r c xs r' c' ys u v t w h h' ht
  unfold MakesMx at CP ⊢
  have HU := Lib.hid h
  have HV := Lib.hid h'
  obtain ⟨_, A1, k1, rfl, hk1, hm1, _⟩ := h
  obtain ⟨_, A2, k2, rfl, hk2, hm2, _⟩ := h'
  clear ht
  obtain ⟨L, HL, S⟩ := st_start w0; have F : True := trivial
  go_enter Try.func73, Try.ntmps73
  go_wp2_with (first | (refine wpList_box rfl S _ _ rfl ?_; intro g w L hM T; clear F S; (try rw [HL.out] at hM); clear HL; (try simp [Act.put, Act.eval, Value.cells, splice] at hM); have HL := Lib.hid hM; clear hM; have S := T; clear T; have F := factsAll HL S; (try simp only [factsOf, cellsFrom, and_true, true_and, Nat.reduceAdd] at F)) | (refine wpList_alloc rfl S 55 _ rfl zMx ?_; intro g w L hM T; clear F S; (try rw [HL.out] at hM); clear HL; (try simp [Act.put, Act.eval, Value.cells, splice] at hM); have HL := Lib.hid hM; clear hM; have S := T; clear T; have F := factsAll HL S; (try simp only [factsOf, cellsFrom, and_true, true_and, Nat.reduceAdd] at F)) | (refine wpList_store_box rfl S _ _ _ rfl 0 _ _ _ _ (atOf HL rfl) rfl _ rfl (by kernel_rfl) rfl rfl ?_; intro w L hM T; clear F S; (try rw [HL.out] at hM); clear HL; (try simp [Act.put, Act.eval, Value.cells, splice] at hM); have HL := Lib.hid hM; clear hM; have S := T; clear T; have F := factsAll HL S; (try simp only [factsOf, cellsFrom, and_true, true_and, Nat.reduceAdd] at F)) | (refine wpList_store_box rfl S _ _ _ rfl 1 _ _ _ _ (atOf HL rfl) rfl _ rfl (by kernel_rfl) rfl rfl ?_; intro w L hM T; clear F S; (try rw [HL.out] at hM); clear HL; (try simp [Act.put, Act.eval, Value.cells, splice] at hM); have HL := Lib.hid hM; clear hM; have S := T; clear T; have F := factsAll HL S; (try simp only [factsOf, cellsFrom, and_true, true_and, Nat.reduceAdd] at F)) | (refine wpList_store_box rfl S _ _ _ rfl 2 _ _ _ _ (atOf HL rfl) rfl _ rfl (by kernel_rfl) rfl rfl ?_; intro w L hM T; clear F S; (try rw [HL.out] at hM); clear HL; (try simp [Act.put, Act.eval, Value.cells, splice] at hM); have HL := Lib.hid hM; clear hM; have S := T; clear T; have F := factsAll HL S; (try simp only [factsOf, cellsFrom, and_true, true_and, Nat.reduceAdd] at F)) | (refine wpList_store_box rfl S _ _ _ rfl 3 _ _ _ _ (atOf HL rfl) rfl _ rfl (by kernel_rfl) rfl rfl ?_; intro w L hM T; clear F S; (try rw [HL.out] at hM); clear HL; (try simp [Act.put, Act.eval, Value.cells, splice] at hM); have HL := Lib.hid hM; clear hM; have S := T; clear T; have F := factsAll HL S; (try simp only [factsOf, cellsFrom, and_true, true_and, Nat.reduceAdd] at F))  | (go_at_call 106; refine (CP _ (HU.out.at_ S) (HV.out.at_ S)).mono ?_; rintro e w ⟨u, rfl, T0⟩; obtain ⟨L, hM, T⟩ := st_name (S.call T0); clear T0; clear F S; (try rw [HL.out] at hM); clear HL; (try simp [Act.put, Act.eval, Value.cells, splice] at hM); have HL := Lib.hid hM; clear hM; have S := T; clear T; have F := factsAll HL S; (try simp only [factsOf, cellsFrom, and_true, true_and, Nat.reduceAdd] at F); obtain ⟨A', cap', rfl, hcap', hmax'⟩ := S.sliceOf (atOf HL (p := 0) rfl)))
  ((try simp only [Exit.inBlock, Exit.then]); refine ret1 rfl (resCell S HL 1 rfl rfl (by kernel_rfl)) rfl ?_)
  exact ⟨_, rfl, (by rw [HL.out] at S; exact S.sub (by repeat (first | exact .refl _ | exact List.nil_sublist _ | apply List.Sublist.cons_cons | apply List.Sublist.cons)))⟩
end Go.Proofs.Ytdfpceobfficfaa
