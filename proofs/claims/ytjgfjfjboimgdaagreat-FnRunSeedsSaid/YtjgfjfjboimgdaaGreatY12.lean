/- MatK JnA MulI SpA -/
import Derived.Test.YtjgfjfjboimgdaaGreatY11
namespace Go.Proofs.YtjgfjfjboimgdaaGreat
set_option linter.unusedSimpArgs false
set_option linter.unusedVariables false
set_option linter.unusedSectionVars false
open Go Go.RowKit
set_option maxHeartbeats 8000000
set_option maxRecDepth 20000
section
theorem C_specAddL (a b q : Int) (w0 : World) (h : addR a b = q) : Calls Tryz.prog 169 #[.int .i64 a, .int .i64 b] w0 fun e w' => e = .returned (.int .i64 q) ∧ w0 = w' := h ▸ C_spec_AddRing a b w0
theorem C_spec_AddL (R C N : Nat) (xs ys : List Int) (u v : Value) (w0 : World) (h : Ints w0 u xs) (h' : Ints w0 v ys) (r1 : 1 ≤ R) (r2 : R ≤ 5) (c1 : 1 ≤ C) (c2 : C ≤ 5) (hRC : R * C = N) (hN : xs.length = N) (hN' : ys.length = N) (hN2 : N ≤ 25) (a1 : xs.all rv = true) (a2 : ys.all rv = true) :
    Calls Tryz.prog 159 #[.agg #[.int .i64 R, .int .i64 C, u], .agg #[.int .i64 R, .int .i64 C, v]] w0 (MakesMx w0 R C (tab N (sumsV xs ys))) := by
  unfold MakesMx
  have HU := Lib.hid h
  have HV := Lib.hid h'
  obtain ⟨_, A1, k1, rfl, hk1, hm1, _⟩ := h
  obtain ⟨_, A2, k2, rfl, hk2, hm2, _⟩ := h'
  have hl : likeMx ⟨R, C, xs⟩ ⟨R, C, ys⟩ = true := by
    simp only [likeMx, Bool.and_eq_true, decide_eq_true_eq]
    exact ⟨⟨⟨Mx.ok_of r1 r2 c1 c2 (by rw [hN, hRC]) a1, Mx.ok_of r1 r2 c1 c2 (by rw [hN', hRC]) a2⟩, trivial⟩, trivial⟩
  have H1 := Lib.hid hl
  have hN0 : 0 < N := by rw [← hRC]; exact Nat.mul_pos (by omega) (by omega)
  have HN := Lib.hid hN
  have HN' := Lib.hid hN'
  have B1 := Lib.hid (show xs.length ≤ 1048576 by omega)
  have B2 := Lib.hid (show ys.length ≤ 1048576 by omega)
  clear hl hN hN' hRC a1 a2
  have CO := fun r c xs v w h hn => C_l1OwnMatrix r c xs v w h hn
  unfold MakesMx at CO
  rw [tab_length]
  obtain ⟨L, HL, S⟩ := st_start w0; have F : True := trivial
  go_enter Tryz.func159, Tryz.ntmps159
  go_upto_region 3 with (first | (refine qbd 2 HL S ?_; clear F S HL; intro ga w L HL S F) | (refine qbd 3 HL S ?_; clear F S HL; intro gb w L HL S F) | (refine qal HL S zMx ?_; clear F S HL; intro gr w L HL S F) | (go_at_call 88; refine (CO _ _ _ _ _ (by first | exact HU.out.at_ S | exact HV.out.at_ S) (by first | exact B1.out | exact B2.out)).mono ?_; rintro e w ⟨u, rfl, T0⟩; have hX := qcl HL S T0; clear F S HL T0; obtain ⟨L, HL, S, F⟩ := hX; obtain ⟨A', cap', rfl, hcap', hmax'⟩ := qSl HL S 0) | (refine qst HL S 1 ?_; clear F S HL; intro w L HL S F) | (refine qst HL S 2 ?_; clear F S HL; intro w L HL S F) | (refine qst HL S 3 ?_; clear F S HL; intro w L HL S F) | (refine qst HL S 4 ?_; clear F S HL; intro w L HL S F))
  clear CO
  obtain ⟨g2, q2, e2, hq2, hs2⟩ := S.rowAt (p := 0) (atOf HL rfl) (by rw [HN'.out]; omega)
  obtain ⟨g1, q1, e1, hq1, hs1⟩ := S.rowAt (p := 1) (atOf HL rfl) (by rw [HN.out]; omega)
  rw [e1, e2] at HL ⊢
  clear e1 e2 F
  have F := factsAll HL S
  simp only [factsOf, cellsFrom, and_true, true_and, Nat.reduceAdd] at F
  go_upto_region 5 with (first | (go_at_call 89; refine qGr S (C_spec_l3Like _ _ _ _ _ _ _ _ _ _ (by exact (Sees.row S qAt).ints) (by exact (Sees.row S qAt).ints) (by exact H1.out)) ?_; clear S; intro w S))
  go_upto_region 6 with (first | (refine qal HL S zMx ?_; clear F S HL; intro g5 w L HL S F) | (refine qst HL S 0 ?_; clear F S HL; intro w L HL S F))
  rw [HL.out] at S
  replace S := S.nilRow 3 1
  clear HL F
  obtain ⟨L, hM, T⟩ := st_name S; clear S; have S := T; clear T; have HL := Lib.hid hM; clear hM; have F := qFc HL S
  go_wp2
  go_loopw [6] (fun i wr => ∃ (k : Nat) (E1 : Option Addr) (m1 : Nat) (L : List Ent), k ≤ N ∧ i = .int .i64 k ∧ Hid (L = [.row 3 1 (.slice E1 k m1) k (ints (tab k (sumsV xs ys))), .box g5 30 [.int .i64 R, .int .i64 C, .slice E1 k m1], .row 3 1 (.slice (some ⟨g2, 0, none⟩) ys.length q2) ys.length (ints ys), .row 3 1 (.slice (some ⟨g1, 0, none⟩) xs.length q1) xs.length (ints xs), .box gr 30 [.int .i64 0, .int .i64 0, .slice none 0 0], .box gb 30 [.int .i64 R, .int .i64 C, .slice (some ⟨g2, 0, none⟩) ys.length q2], .box ga 30 [.int .i64 R, .int .i64 C, .slice (some ⟨g1, 0, none⟩) xs.length q1]]) ∧ St w0 wr L) (fun i _ => N - (intOf i).toNat)
  case atStart => exact ⟨0, none, 0, L, Nat.zero_le _, rfl, HL, S⟩
  case round =>
    clear F HL S
    obtain ⟨k, E1, m1, L, hk, rfl, HL, S⟩ := hrel
    have F := factsAll HL S
    simp only [factsOf, cellsFrom, and_true, true_and, Nat.reduceAdd] at F
    by_cases hlt : k < N
    · have hlx : k < xs.length := by rw [HN.out]; exact hlt
      have hly : k < ys.length := by rw [HN'.out]; exact hlt
      have X0 := Lib.hid (ints_getD xs k hlx)
      have Y0 := Lib.hid (ints_getD ys k hly)
      have ea := tab_succ k (sumsV xs ys)
      have eq : addR (xs.getD k 0) (ys.getD k 0) = sumsV xs ys k := rfl
      generalize xs.getD k 0 = x at X0 eq
      generalize ys.getD k 0 = y at Y0 eq
      generalize sumsV xs ys k = z at ea eq
      have EQ := Lib.hid eq
      have EA := Lib.hid ea
      clear ea eq
      go_upto_region 9 with fail
      have hT := congrArg List.tail HL.out; simp only [List.tail_cons] at hT; obtain ⟨L1, hL1⟩ : ∃ M, M = L.tail := ⟨_, rfl⟩; rw [← hL1] at hT; have HL0 := Lib.hid hT; have S1 := S.sub (List.tail_sublist L); rw [← hL1] at S1; have F0 := qFc HL0 S1; clear S1 hL1 hT; (have d0 := fun w' (S' : St w0 w' L1) => (S'.rowCell (p := 2) (atOf HL0 rfl) k (by omega)).trans X0.out); (have d1 := fun w' (S' : St w0 w' L1) => (S'.rowCell (p := 1) (atOf HL0 rfl) k (by omega)).trans Y0.out); refine wp_region_tree (S := fun w' => St w0 w' L1) (qcs 0 12 (.act 12 (.act 13 (.act 14 (.calm 15 (.act 16 .fin .stop)) .stop) .stop) .stop)) (by kernel_rfl) (by kernel_rfl) (by kernel_rfl) (by intro c a d v w h; cases d <;> exact h) ?_; dsimp only [qcs, Nat.reduceAdd]; replace S := S.drew
      repeat (first | refine qCa ?_ | refine qAn ?_ | refine qSk ?_ | (refine tree_act rfl rfl ?_ tree_stop; intro K hK; (refine wp_lit1 S _ _ rfl 3 Tryz.underlying23 infoInt _ rfl ?_; clear F S; intro g w L hM S; replace HL := qNm HL hM; clear hM; have F := qFc HL S); (refine qKo hK ?_; clear hK K)) | (refine tree_act rfl rfl ?_ tree_stop; intro K hK; (refine wp_append_box S _ _ _ rfl 3 _ 1 8 Tryz.underlying23 infoInt rfl (by omega) 1 _ _ _ rfl (atOf HL rfl) (by omega) 0 _ _ _ _ _ rfl (atOf HL rfl) rfl rfl rfl rfl ?_; clear F S; intro u w L hM S; replace HL := qNm HL hM; clear hM; have F := qFc HL S; obtain ⟨A', cap', rfl, hcap', hmax'⟩ := qSl HL S 1); (refine qKo hK ?_; clear hK K)) | (refine tree_act rfl rfl ?_ tree_stop; intro K hK; (refine qsw HL S 2 ?_; clear F S HL; intro w L HL S F); (refine qKo hK ?_; clear hK K)) | (refine tree_act rfl rfl ?_ tree_stop; intro K hK; go_wp2_with (first | (go_at_call 169; refine qPu (C_specAddL _ _ _ _ (by exact EQ.out)) ?_)); (refine qKo hK ?_; clear hK K)))
      refine tree_fin ?_
      clear HL0 F0 d0 d1
      go_wp2
      go_roundw
      case rel =>
        have e1 : ints (tab k (sumsV xs ys)) ++ [.int .i64 z] = ints (tab (k + 1) (sumsV xs ys)) := by rw [EA.out, ints_append]; rfl
        rw [HL.out, e1] at S
        exact ⟨k + 1, _, _, _, by omega, by go_num, Lib.hid rfl, S.sub (.cons _ (.refl _))⟩
      case measure => simp [intOf]; omega
    · obtain rfl : k = N := by omega
      have hlx : ¬ k < xs.length := by rw [HN.out]; omega
      go_wp2_with (first | (refine qst HL S 4 ?_; clear F S HL; intro w L HL S F))
      ((try simp only [Exit.inBlock, Exit.then]); refine ret1 rfl (resCell S HL 4 rfl rfl (by kernel_rfl)) rfl ?_)
      exact ⟨_, rfl, (by rw [HL.out] at S; exact S.sub (by repeat (first | exact .refl _ | exact List.nil_sublist _ | apply List.Sublist.cons_cons | apply List.Sublist.cons)))⟩
end
section
theorem C_impl_JoinL (r c : Int) (xs : List Int) (r' c' : Int) (ys : List Int) (u v : Value) (t : Mx) (w0 : World) (h : Ints w0 u xs) (h' : Ints w0 v ys) (ht : sumMx ⟨r, c, xs⟩ ⟨r', c', ys⟩ = t) :
    Calls Tryz.prog 27 #[.agg #[.int .i64 r, .int .i64 c, u, .int .i64 r', .int .i64 c', v]] w0 (MakesMx w0 t.r t.c t.xs) := by
  have CP := fun w h h' => C_impl_AddL r c xs r' c' ys u v t w h h' ht
  unfold MakesMx at CP ⊢
  have HU := Lib.hid h
  have HV := Lib.hid h'
  obtain ⟨_, A1, k1, rfl, hk1, hm1, _⟩ := h
  obtain ⟨_, A2, k2, rfl, hk2, hm2, _⟩ := h'
  clear ht
  obtain ⟨L, HL, S⟩ := st_start w0; have F : True := trivial
  go_enter Tryz.func27, Tryz.ntmps27
  go_wp2_with (first | (refine qbx HL S ?_; clear F S HL; intro g w L HL S F) | (refine qal HL S zMx ?_; clear F S HL; intro g w L HL S F) | (refine qst HL S 0 ?_; clear F S HL; intro w L HL S F) | (refine qst HL S 1 ?_; clear F S HL; intro w L HL S F) | (refine qst HL S 2 ?_; clear F S HL; intro w L HL S F) | (refine qst HL S 3 ?_; clear F S HL; intro w L HL S F)  | (go_at_call 68; refine (CP _ (HU.out.at_ S) (HV.out.at_ S)).mono ?_; rintro e w ⟨u, rfl, T0⟩; have hX := qcl HL S T0; clear F S HL T0; obtain ⟨L, HL, S, F⟩ := hX; obtain ⟨A', cap', rfl, hcap', hmax'⟩ := qSl HL S 0))
  ((try simp only [Exit.inBlock, Exit.then]); refine ret1 rfl (resCell S HL 1 rfl rfl (by kernel_rfl)) rfl ?_)
  exact ⟨_, rfl, (by rw [HL.out] at S; exact S.sub (by repeat (first | exact .refl _ | exact List.nil_sublist _ | apply List.Sublist.cons_cons | apply List.Sublist.cons)))⟩
theorem C_spec_AddG (r c : Int) (xs : List Int) (r' c' : Int) (ys : List Int) (u v : Value) (t : Mx) (w0 : World) (h : Ints w0 u xs) (h' : Ints w0 v ys) (hn : xs.length ≤ 1048576) (hn' : ys.length ≤ 1048576) (ht : sumMx ⟨r, c, xs⟩ ⟨r', c', ys⟩ = t) :
    Calls Tryz.prog 159 #[.agg #[.int .i64 r, .int .i64 c, u], .agg #[.int .i64 r', .int .i64 c', v]] w0 (MakesMx w0 t.r t.c t.xs) := by
  cases hl : likeMx ⟨r, c, xs⟩ ⟨r', c', ys⟩ with
  | true =>
    have hl' := hl
    simp only [likeMx, Bool.and_eq_true, decide_eq_true_eq] at hl'
    obtain ⟨⟨⟨ha, hb⟩, e1⟩, e2⟩ := hl'
    subst e1 e2
    obtain ⟨R, C, N, e0, r1, r2, c1, c2, hRC, hN, hN2, hall⟩ := Mx.ok_nat ha
    obtain ⟨R', C', N', e0', _, _, _, _, hRC', hN', _, hall'⟩ := Mx.ok_nat hb
    simp only [Mx.mk.injEq, and_true] at e0 e0'
    obtain ⟨rfl, rfl⟩ := e0
    obtain rfl : R' = R := by omega
    obtain rfl : C' = C := by omega
    have e : t = ⟨R', C', tab N (sumsV xs ys)⟩ := by
      rw [← ht]
      unfold sumMx
      rw [if_pos hl]
      dsimp only at hN ⊢
      rw [hN]
    subst e
    exact C_spec_AddL R' C' N xs ys u v w0 h h' r1 r2 c1 c2 hRC hN (by dsimp only at hN'; omega) hN2 hall hall'
  | false =>
    obtain rfl : t = Mx.zero := by
      rw [← ht]
      unfold sumMx
      rw [hl]
      rfl
    have HL1 := Lib.hid hl
    have HU := Lib.hid h
    have HV := Lib.hid h'
    obtain ⟨_, A1, k1, rfl, hk1, hm1, _⟩ := h
    obtain ⟨_, A2, k2, rfl, hk2, hm2, _⟩ := h'
    have CO := fun r c xs v w h hn => C_l1OwnMatrix r c xs v w h hn
    unfold MakesMx at CO ⊢
    clear ht hl
    obtain ⟨L, HL, S⟩ := st_start w0; have F : True := trivial
    go_enter Tryz.func159, Tryz.ntmps159
    go_upto_region 3 with (first | (refine qbd 2 HL S ?_; clear F S HL; intro ga w L HL S F) | (refine qbd 3 HL S ?_; clear F S HL; intro gb w L HL S F) | (refine qal HL S zMx ?_; clear F S HL; intro gr w L HL S F) | (go_at_call 88; refine (CO _ _ _ _ _ (by first | exact HU.out.at_ S | exact HV.out.at_ S) (by first | exact hn | exact hn')).mono ?_; rintro e w ⟨u, rfl, T0⟩; have hX := qcl HL S T0; clear F S HL T0; obtain ⟨L, HL, S, F⟩ := hX; obtain ⟨A', cap', rfl, hcap', hmax'⟩ := qSl HL S 0) | (refine qst HL S 1 ?_; clear F S HL; intro w L HL S F) | (refine qst HL S 2 ?_; clear F S HL; intro w L HL S F) | (refine qst HL S 3 ?_; clear F S HL; intro w L HL S F) | (refine qst HL S 4 ?_; clear F S HL; intro w L HL S F))
    clear CO
    go_wp2_with (first | (go_at_call 89; refine qGr S (C_spec_l3Like _ _ _ _ _ _ _ _ _ _ (by exact (Sees.row S qAt).ints) (by exact (Sees.row S qAt).ints) (by exact HL1.out)) ?_; clear S; intro w S) | (refine qst HL S 2 ?_; clear F S HL; intro w L HL S F))
    ((try simp only [Exit.inBlock, Exit.then]); refine ret1 rfl (resCell S HL 2 rfl rfl (by kernel_rfl)) rfl ?_)
    exact ⟨_, rfl, S.nilMx _⟩
theorem C_spec_JoinL (r c : Int) (xs : List Int) (r' c' : Int) (ys : List Int) (u v : Value) (t : Mx) (w0 : World) (h : Ints w0 u xs) (h' : Ints w0 v ys) (hn : xs.length ≤ 1048576) (hn' : ys.length ≤ 1048576) (ht : sumMx ⟨r, c, xs⟩ ⟨r', c', ys⟩ = t) :
    Calls Tryz.prog 122 #[.agg #[.int .i64 r, .int .i64 c, u, .int .i64 r', .int .i64 c', v]] w0 (MakesMx w0 t.r t.c t.xs) := by
  have CP := fun u v w h h' => C_spec_AddG r c xs r' c' ys u v t w h h' hn hn' ht
  have CO := fun u v w h h' => C_l1OwnSharedMatrix r c xs r' c' ys u v w h h' hn hn'
  unfold MakesMx at CP ⊢
  unfold MakesSMx at CO
  have HU := Lib.hid h
  have HV := Lib.hid h'
  obtain ⟨_, A1, k1, rfl, hk1, hm1, _⟩ := h
  obtain ⟨_, A2, k2, rfl, hk2, hm2, _⟩ := h'
  clear ht
  obtain ⟨L, HL, S⟩ := st_start w0; have F : True := trivial
  go_enter Tryz.func122, Tryz.ntmps122
  go_wp2_with (first | (refine qbx HL S ?_; clear F S HL; intro g w L HL S F) | (refine qal HL S zMx ?_; clear F S HL; intro g w L HL S F) | (refine qst HL S 0 ?_; clear F S HL; intro w L HL S F) | (refine qst HL S 1 ?_; clear F S HL; intro w L HL S F) | (refine qst HL S 2 ?_; clear F S HL; intro w L HL S F) | (refine qst HL S 3 ?_; clear F S HL; intro w L HL S F)  | (go_at_call 42; refine (CO _ _ _ (HU.out.at_ S) (HV.out.at_ S)).mono ?_; rintro e w ⟨u, v, rfl, T0⟩; have hX := qcl HL S T0; clear F S HL T0; obtain ⟨L, HL, S, F⟩ := hX; obtain ⟨A', cap', rfl, hcap', hmax'⟩ := qSl HL S 0; obtain ⟨A', cap', rfl, hcap', hmax'⟩ := qSl HL S 1) | (go_at_call 159; refine (CP _ _ _ (by exact (Sees.row S qAt).ints) (by exact (Sees.row S qAt).ints)).mono ?_; rintro e w ⟨u, rfl, T0⟩; have hX := qcl HL S T0; clear F S HL T0; obtain ⟨L, HL, S, F⟩ := hX; obtain ⟨A', cap', rfl, hcap', hmax'⟩ := qSl HL S 0))
  ((try simp only [Exit.inBlock, Exit.then]); refine ret1 rfl (resCell S HL 3 rfl rfl (by kernel_rfl)) rfl ?_)
  exact ⟨_, rfl, (by rw [HL.out] at S; exact S.sub (by repeat (first | exact .refl _ | exact List.nil_sublist _ | apply List.Sublist.cons_cons | apply List.Sublist.cons)))⟩
end
section
theorem C_RingOf' (a q : Int) (w0 : World) (h : ro a = q) : Calls Tryz.prog 151 #[.int .i64 a] w0 fun e w' => e = .returned (.int .i64 q) ∧ w0 = w' := h ▸ C_impl_RingOf a w0
theorem C_valueAt (C N cap b off k c m : Nat) (R y : Int) (w0 : World) (hk : k ≤ 5) (hC : C ≤ 5) (hm : k * C = m) (hc : c < C) (hN : m + c < N) (hN2 : N ≤ cap) (hcap : cap ≤ maxLen) (hb : b < w0.heap.size) (hy : w0.cell? ⟨b, off + (m + c), none⟩ = some (.int .i64 y)) :
    Calls Tryz.prog 191 #[.agg #[.int .i64 R, .int .i64 C, .slice (some ⟨b, off, none⟩) N cap], .int .i64 k, .int .i64 c] w0 fun e w' => e = .returned (.int .i64 y) ∧ Below w0.heap.size w0 w' := by
  have h2 : m ≤ 25 := by
    have : k * C ≤ 5 * 5 := Nat.mul_le_mul hk hC
    omega
  have w1 : (k : Int) * (C : Int) = (m : Int) := by rw [← hm, Int.natCast_mul]
  unfold maxLen at hcap
  clear hm
  obtain ⟨L, HL, S⟩ := st_start w0; have F : True := trivial
  go_enter Tryz.func191, Tryz.ntmps191
  go_upto_region 1 with (first | (refine qbx HL S ?_; clear F S HL; intro g w L HL S F))
  have c0 := (S.below.cell (p := ⟨b, off + (m + c), none⟩) hb).trans hy
  go_wp2
  go_ret
  exact ⟨rfl, S.below⟩
theorem C_impl_Mul (R C D : Nat) (xs ys : List Int) (u v : Value) (w0 : World) (h : Ints w0 u xs) (h' : Ints w0 v ys) (r1 : 1 ≤ R) (r2 : R ≤ 5) (c1 : 1 ≤ C) (c2 : C ≤ 5) (d1 : 1 ≤ D) (d2 : D ≤ 5) (hl : xs.length = R * C) (hl' : ys.length = C * D) (a1 : xs.all rv = true) (a2 : ys.all rv = true) :
    Calls Tryz.prog 175 #[.agg #[.int .i64 R, .int .i64 C, u], .agg #[.int .i64 C, .int .i64 D, v]] w0 (MakesMx w0 R D (tab (R * D) (mulAt xs ys C D))) := by
  obtain ⟨N, hN⟩ : ∃ N, R * D = N := ⟨_, rfl⟩
  obtain ⟨N1, hN1⟩ : ∃ N, R * C = N := ⟨_, rfl⟩
  obtain ⟨N2, hN2⟩ : ∃ N, C * D = N := ⟨_, rfl⟩
  have b0 : N ≤ 25 := by
    have : R * D ≤ 5 * 5 := Nat.mul_le_mul r2 d2
    omega
  have b1 : N1 ≤ 25 := by
    have : R * C ≤ 5 * 5 := Nat.mul_le_mul r2 c2
    omega
  have b2 : N2 ≤ 25 := by
    have : C * D ≤ 5 * 5 := Nat.mul_le_mul c2 d2
    omega
  have p0 : 0 < N := by rw [← hN]; exact Nat.mul_pos r1 d1
  have p1 : 0 < N1 := by rw [← hN1]; exact Nat.mul_pos r1 c1
  have p2 : 0 < N2 := by rw [← hN2]; exact Nat.mul_pos c1 d1
  unfold MakesMx
  rw [tab_length]
  have HU := Lib.hid h
  have HV := Lib.hid h'
  have H1 := Lib.hid (Mx.ok_of r1 r2 c1 c2 hl a1)
  have H2 := Lib.hid (Mx.ok_of c1 c2 d1 d2 hl' a2)
  obtain ⟨_, A1, k1, rfl, hk1, hm1', hA1⟩ := h
  obtain ⟨_, A2, k2, rfl, hk2, hm2', hA2⟩ := h'
  rw [hN1] at hl
  rw [hN2] at hl'
  rw [hl] at hk1 hA1
  rw [hl'] at hk2 hA2
  obtain ⟨ba, oa, rfl, hba, hca⟩ := hA1 p1
  obtain ⟨bb, ob, rfl, hbb, hcb⟩ := hA2 p2
  have HA := Lib.hid hca
  have HB := Lib.hid hcb
  have HL1 := Lib.hid hl
  have HL2 := Lib.hid hl'
  have HN := Lib.hid hN
  have HN1 := Lib.hid hN1
  have HN2 := Lib.hid hN2
  have HX := Lib.hid a1
  have HY := Lib.hid a2
  have CE := fun w => C_emptyMatrix R D N w hN b0
  unfold MakesMx at CE
  rw [tab_length] at CE
  rw [HL1.out] at HU ⊢
  rw [HL2.out] at HV ⊢
  rw [HN.out]
  clear hA1 hA2 hca hcb hl hl' hN hN1 hN2 a1 a2
  obtain ⟨L, HL, S⟩ := st_start w0; have F : True := trivial
  go_enter Tryz.func175, Tryz.ntmps175
  go_upto_region 1 with (first | (refine qbd 2 HL S ?_; clear F S HL; intro ga w L HL S F) | (refine qbd 3 HL S ?_; clear F S HL; intro gb w L HL S F) | (refine qal HL S zMx ?_; clear F S HL; intro gr w L HL S F))
  go_upto_region 3 with (first | (go_at_call 70; refine qGr S (C_impl_MatrixValid _ _ _ _ _ _ (by first | exact HU.out.at_ S | exact HV.out.at_ S) (by first | exact H1.out | exact H2.out)) ?_; clear S; intro w S))
  go_upto_region 4 with (first | (refine qal HL S zMx ?_; clear F S HL; intro g5 w L HL S F) | (refine qst HL S 0 ?_; clear F S HL; intro w L HL S F) | (go_at_call 103; refine (CE _).mono ?_; rintro e w ⟨u, rfl, T0⟩; have hX := qcl HL S T0; clear F S HL T0; obtain ⟨L, HL, S, F⟩ := hX; obtain ⟨A', cap', rfl, hcap', hmax'⟩ := qSl HL S 0))
  obtain ⟨gn, cn, ev, hcv, hmv⟩ := S.rowAt (p := 1) (atOf HL rfl) p0
  obtain ⟨rfl, rfl⟩ : A' = some ⟨gn, 0, none⟩ ∧ cap' = cn := by injection ev with e1 _ e3; exact ⟨e1, e3⟩
  clear ev CE
  go_wp2
  go_loopw [35] (fun i wr => ∃ (j : Nat) (L : List Ent), j ≤ R ∧ i = .int .i64 j ∧ Hid (L = [.box g5 30 [.int .i64 R, .int .i64 D, .slice (some ⟨gn, 0, none⟩) N cap'], .row 3 1 (.slice (some ⟨gn, 0, none⟩) N cap') N (ints (tab N fun q => if q < j * D then mulAt xs ys C D q else 0)), .box gr 30 [.int .i64 0, .int .i64 0, .slice none 0 0], .box gb 30 [.int .i64 C, .int .i64 D, .slice (some ⟨bb, ob, none⟩) N2 k2], .box ga 30 [.int .i64 R, .int .i64 C, .slice (some ⟨ba, oa, none⟩) N1 k1]]) ∧ St w0 wr L) (fun i _ => R - (intOf i).toNat)
  case atStart => exact ⟨0, L, Nat.zero_le _, rfl, Lib.hid (by rw [HL.out, Nat.zero_mul, fil_zero]), S⟩
  case round =>
    clear F HL S
    obtain ⟨j, L, hj, rfl, HL, S⟩ := hrel
    have F := factsAll HL S
    simp only [factsOf, cellsFrom, and_true, true_and, Nat.reduceAdd] at F
    by_cases hlt : j < R
    · obtain ⟨m1, hm1⟩ : ∃ m1, j * C = m1 := ⟨_, rfl⟩
      obtain ⟨m2, hm2⟩ : ∃ m2, j * D = m2 := ⟨_, rfl⟩
      have HM1 := Lib.hid hm1
      have HM2 := Lib.hid hm2
      have CR := fun w => C_rowOf R C j N1 k1 ba oa m1 w hlt r2 c1 c2 hm1 HN1.out hk1 hm1'
      rw [hm2] at HL
      clear hm1 hm2
      go_wp2_with (first | (go_at_call 104; refine qGr S (CR _) ?_; clear S; intro w S))
      clear CR
      go_loopw [43] (fun i wr => ∃ (c : Nat) (L : List Ent), c ≤ D ∧ i = .int .i64 c ∧ Hid (L = [.box g5 30 [.int .i64 R, .int .i64 D, .slice (some ⟨gn, 0, none⟩) N cap'], .row 3 1 (.slice (some ⟨gn, 0, none⟩) N cap') N (ints (tab N fun q => if q < m2 + c then mulAt xs ys C D q else 0)), .box gr 30 [.int .i64 0, .int .i64 0, .slice none 0 0], .box gb 30 [.int .i64 C, .int .i64 D, .slice (some ⟨bb, ob, none⟩) N2 k2], .box ga 30 [.int .i64 R, .int .i64 C, .slice (some ⟨ba, oa, none⟩) N1 k1]]) ∧ St w0 wr L) (fun i _ => D - (intOf i).toNat)
      case atStart => exact ⟨0, L, Nat.zero_le _, rfl, HL, S⟩
      case round =>
        clear F HL S
        obtain ⟨c, L, hc, rfl, HL, S⟩ := hrel
        have F := factsAll HL S
        simp only [factsOf, cellsFrom, and_true, true_and, Nat.reduceAdd] at F
        by_cases hlt2 : c < D
        · go_wp2
          go_loopw [48, 9] (fun i s wr => ∃ (k : Nat), k ≤ C ∧ i = .int .i64 k ∧ s = .int .i64 (dot xs ys C D j c k) ∧ St w0 wr L) (fun i _ _ => C - (intOf i).toNat)
          case atStart => exact ⟨0, Nat.zero_le _, rfl, rfl, S⟩
          case round =>
            clear S
            obtain ⟨k, hk, rfl, rfl, S⟩ := hrel
            by_cases hlt3 : k < C
            · obtain ⟨m3, hm3⟩ : ∃ m3, k * D = m3 := ⟨_, rfl⟩
              have q1 : m1 + k < N1 := by rw [← HM1.out, ← HN1.out]; exact cell_lt hlt hlt3
              have q2 : m3 + c < N2 := by rw [← hm3, ← HN2.out]; exact cell_lt hlt3 hlt2
              have x0 := HA.out (m1 + k) _ (ints_getD xs (m1 + k) (by rw [HL1.out]; exact q1))
              have y0 := HB.out (m3 + c) _ (ints_getD ys (m3 + c) (by rw [HL2.out]; exact q2))
              have bs := dot_bd HX.out HY.out C D j c k
              have bx := rv_bd (getD_rv HX.out (m1 + k))
              have byy := rv_bd (getD_rv HY.out (m3 + c))
              have e1 : dot xs ys C D j c (k + 1) = dot xs ys C D j c k + xs.getD (m1 + k) 0 * ys.getD (m3 + c) 0 := by rw [← HM1.out, ← hm3]; rfl
              generalize dot xs ys C D j c k = s at e1 bs
              generalize xs.getD (m1 + k) 0 = x at *
              generalize ys.getD (m3 + c) 0 = y at *
              have hp1 : 0 ≤ x * y := Int.mul_nonneg bx.1 byy.1
              have hp2 : x * y ≤ 16769025 := by
                have := Int.mul_le_mul (show x ≤ 4095 by omega) (show y ≤ 4095 by omega) byy.1 (by omega)
                omega
              have E1 := Lib.hid e1
              have HM3 := Lib.hid hm3
              rw [← Nat.add_assoc] at x0
              have c0 := (S.below.cell (p := ⟨ba, oa + m1 + k, none⟩) hba).trans x0
              clear e1 x0 hm3
              have hs2 : s ≤ 100000000 := by omega
              go_wp2_with (first | (go_at_call 191; refine qGr S (C_valueAt D N2 k2 bb ob k c m3 _ y _ (by omega) d2 HM3.out hlt2 q2 hk2 hm2' (Nat.lt_of_lt_of_le hbb S.below.size) ((S.below.cell (p := ⟨bb, ob + (m3 + c), none⟩) hbb).trans y0)) ?_; clear S; intro w S))
              go_roundw
              case rel => exact ⟨k + 1, by omega, by go_num, by rw [E1.out], S⟩
              case measure => simp [intOf]; omega
            · obtain rfl : k = C := by omega
              have q0 : m2 + c < N := by rw [← HM2.out, ← HN.out]; exact cell_lt hlt hlt2
              have hz : ro (dot xs ys k D j c k) = mulAt xs ys k D (m2 + c) := by rw [← HM2.out]; exact (mulAt_at xs ys hlt2).symm
              have ea := fil_set (mulAt xs ys k D) N (m2 + c)
              have w2 : IntKind.i64.wrap ((j : Int) * (D : Int)) = (m2 : Int) := wrap_nat (by rw [← HM2.out, Int.natCast_mul]) (by omega)
              have w3 : IntKind.i64.wrap ((m2 : Int) + (c : Int)) = ((m2 + c : Nat) : Int) := wrap_nat (by omega) (by omega)
              obtain ⟨p, hp⟩ : ∃ p, m2 + c = p := ⟨_, rfl⟩
              rw [hp] at q0 hz ea w3 HL
              have HP := Lib.hid hp
              clear hp
              generalize dot xs ys k D j c k = s at *
              generalize mulAt xs ys k D p = z at hz ea
              have HZ := Lib.hid hz
              have EA := Lib.hid ea
              clear hz ea
              go_upto_region 17 with fail
              have HL0 := HL; have F0 := F; refine wp_region_tree (S := fun w' => St w0 w' L) (qcs 0 9 (.act 9 (.calm 10 (.act 11 .fin .stop)) .stop)) (by kernel_rfl) (by kernel_rfl) (by kernel_rfl) (by intro c a d v w h; cases d <;> exact h) ?_; dsimp only [qcs, Nat.reduceAdd]; replace S := S.drew
              repeat (first | refine qCa ?_ | refine qAn ?_ | refine qSk ?_ | (refine tree_act rfl rfl ?_ tree_stop; intro K hK; (refine wp_store_row S _ _ _ rfl 1 _ _ _ _ _ _ _ (atOf HL rfl) rfl _ rfl (by kernel_rfl) rfl (by omega) ?_; clear F S; intro w L hM S; replace HL := qNm HL hM; clear hM; have F := qFc HL S); (refine qKo hK ?_; clear hK K)) | (refine tree_act rfl rfl ?_ tree_stop; intro K hK; go_wp2_with (first | (go_at_call 151; refine qPu (C_RingOf' _ _ _ (by exact HZ.out)) ?_)); (refine qKo hK ?_; clear hK K)))
              refine tree_fin ?_
              clear HL0 F0 w2 w3
              go_wp2
              go_roundw
              case rel =>
                rw [← ints_set, EA.out] at HL
                exact ⟨c + 1, L, by omega, by go_num, by rw [← Nat.add_assoc, HP.out]; exact HL, S⟩
              case measure => simp [intOf]; omega
        · obtain rfl : c = D := by omega
          go_wp2
          go_roundw
          case rel => exact ⟨j + 1, L, by omega, by go_num, by rw [Nat.succ_mul, HM2.out]; exact HL, S⟩
          case measure => simp [intOf]; omega
    · obtain rfl : j = R := by omega
      go_wp2_with (first | (refine qst HL S 2 ?_; clear F S HL; intro w L HL S F))
      ((try simp only [Exit.inBlock, Exit.then]); refine ret1 rfl (resCell S HL 2 rfl rfl (by kernel_rfl)) rfl ?_)
      refine ⟨_, rfl, ?_⟩
      rw [HN.out, fil_full] at HL
      exact (by rw [HL.out] at S; exact S.sub (by repeat (first | exact .refl _ | exact List.nil_sublist _ | apply List.Sublist.cons_cons | apply List.Sublist.cons)))
end
section
theorem C_SubRingL (a b q : Int) (w0 : World) (h : subR a b = q) : Calls Tryz.prog 179 #[.int .i64 a, .int .i64 b] w0 fun e w' => e = .returned (.int .i64 q) ∧ w0 = w' := h ▸ C_impl_SubRing a b w0
theorem C_pairSub (R C N : Nat) (xs ys : List Int) (u v : Value) (w0 : World) (h : Ints w0 u xs) (h' : Ints w0 v ys) (r1 : 1 ≤ R) (r2 : R ≤ 5) (c1 : 1 ≤ C) (c2 : C ≤ 5) (hRC : R * C = N) (hN : xs.length = N) (hN' : ys.length = N) (hN2 : N ≤ 25) (a1 : xs.all rv = true) (a2 : ys.all rv = true) :
    Calls Tryz.prog 109 #[.agg #[.int .i64 R, .int .i64 C, u], .agg #[.int .i64 R, .int .i64 C, v], .func (.func 179) #[] #[]] w0 (MakesMx w0 R C (tab N (subV xs ys))) := by
  unfold MakesMx
  have HU := Lib.hid h
  have HV := Lib.hid h'
  obtain ⟨_, A1, k1, rfl, hk1, hm1, hA1⟩ := h
  obtain ⟨_, A2, k2, rfl, hk2, hm2, hA2⟩ := h'
  have H1 := Lib.hid (Mx.ok_of r1 r2 c1 c2 (by rw [hN, hRC]) a1 : (Mx.mk R C xs).ok = true)
  have H2 := Lib.hid (Mx.ok_of r1 r2 c1 c2 (by rw [hN', hRC]) a2 : (Mx.mk R C ys).ok = true)
  clear a1 a2
  have hN0 : 0 < N := by rw [← hRC]; exact Nat.mul_pos (by omega) (by omega)
  obtain ⟨ba, oa, rfl, hba, hca⟩ := hA1 (by omega)
  obtain ⟨bb, ob, rfl, hbb, hcb⟩ := hA2 (by omega)
  have HCA := Lib.hid hca
  have HCB := Lib.hid hcb
  have HN := Lib.hid hN
  have HN' := Lib.hid hN'
  have HNC := Lib.hid hRC
  clear hA1 hA2 hca hcb hN hN' hRC
  have CE := fun w => C_emptyMatrix R C N w HNC.out hN2
  unfold MakesMx at CE
  rw [tab_length] at CE
  rw [tab_length]
  obtain ⟨L, HL, S⟩ := st_start w0; have F : True := trivial
  go_enter Tryz.func109, Tryz.ntmps109
  go_upto_region 1 with (first | (refine qbd 3 HL S ?_; clear F S HL; intro ga w L HL S F) | (refine qbd 4 HL S ?_; clear F S HL; intro gb w L HL S F) | (refine qal HL S zMx ?_; clear F S HL; intro gr w L HL S F))
  go_upto_region 3 with (first | (go_at_call 70; refine qGr S (C_impl_MatrixValid _ _ _ _ _ _ (by first | exact HU.out.at_ S | exact HV.out.at_ S) (by first | exact H1.out | exact H2.out)) ?_; clear S; intro w S) | (go_at_call 116; refine qGr S (C_sameSides _ _ _ _ _ _ true _ (by simp)) ?_; clear S; intro w S))
  go_upto_region 4 with (first | (refine qal HL S zMx ?_; clear F S HL; intro g7 w L HL S F) | (refine qst HL S 0 ?_; clear F S HL; intro w L HL S F) | (go_at_call 103; refine (CE _).mono ?_; rintro e w ⟨u, rfl, T0⟩; have hX := qcl HL S T0; clear F S HL T0; obtain ⟨L, HL, S, F⟩ := hX; obtain ⟨A', cap', rfl, hcap', hmax'⟩ := qSl HL S 0))
  obtain ⟨gn, cn, ev, hcv, hmv⟩ := S.rowAt (p := 1) (atOf HL rfl) hN0
  obtain ⟨rfl, rfl⟩ : A' = some ⟨gn, 0, none⟩ ∧ cap' = cn := by injection ev with e1 _ e3; exact ⟨e1, e3⟩
  clear ev CE
  go_wp2
  go_loopw [33] (fun i wr => ∃ (k : Nat) (L : List Ent), k ≤ N ∧ i = .int .i64 k ∧ Hid (L = [.box g7 30 [.int .i64 R, .int .i64 C, .slice (some ⟨gn, 0, none⟩) N cap'], .row 3 1 (.slice (some ⟨gn, 0, none⟩) N cap') N (ints (tab N fun q => if q < k then subV xs ys q else 0)), .box gr 30 [.int .i64 0, .int .i64 0, .slice none 0 0], .box gb 30 [.int .i64 R, .int .i64 C, .slice (some ⟨bb, ob, none⟩) ys.length k2], .box ga 30 [.int .i64 R, .int .i64 C, .slice (some ⟨ba, oa, none⟩) xs.length k1]]) ∧ St w0 wr L) (fun i _ => N - (intOf i).toNat)
  case atStart => exact ⟨0, L, Nat.zero_le _, rfl, Lib.hid (by rw [HL.out, fil_zero]), S⟩
  case round =>
    clear F HL S
    obtain ⟨k, L, hk, rfl, HL, S⟩ := hrel
    have F := factsAll HL S
    simp only [factsOf, cellsFrom, and_true, true_and, Nat.reduceAdd] at F
    by_cases hlt : k < N
    · have hlx : k < xs.length := by rw [HN.out]; exact hlt
      have hly : k < ys.length := by rw [HN'.out]; exact hlt
      have c0 := (S.below.cell (p := ⟨ba, oa + k, none⟩) hba).trans (HCA.out k _ (ints_getD xs k hlx))
      have D1 := Lib.hid (HCB.out k _ (ints_getD ys k hly))
      have ea := fil_set (subV xs ys) N k
      have eq : subR (xs.getD k 0) (ys.getD k 0) = subV xs ys k := rfl
      generalize xs.getD k 0 = x at c0 eq
      generalize ys.getD k 0 = y at D1 eq
      generalize subV xs ys k = z at ea eq
      have EQ := Lib.hid eq
      have EA := Lib.hid ea
      clear ea eq
      go_upto_region 7 with fail
      have d1 := fun w' (S' : St w0 w' L) => (S'.below.cell (p := ⟨bb, ob + k, none⟩) hbb).trans D1.out
      have HL0 := HL; have F0 := F; refine wp_region_tree (S := fun w' => St w0 w' L) (qcs 0 10 (.act 10 (.calm 11 (.act 12 .fin .stop)) .stop)) (by kernel_rfl) (by kernel_rfl) (by kernel_rfl) (by intro c a d v w h; cases d <;> exact h) ?_; dsimp only [qcs, Nat.reduceAdd]; replace S := S.drew
      repeat (first | refine qCa ?_ | refine qAn ?_ | refine qSk ?_ | (refine tree_act rfl rfl ?_ tree_stop; intro K hK; (refine wp_store_row S _ _ _ rfl 1 _ _ _ _ _ _ _ (atOf HL rfl) rfl _ rfl (by kernel_rfl) rfl (by omega) ?_; clear F S; intro w L hM S; replace HL := qNm HL hM; clear hM; have F := qFc HL S); (refine qKo hK ?_; clear hK K)) | (refine tree_act rfl rfl ?_ tree_stop; intro K hK; go_wp2_with (first | (go_at_call 179; refine qPu (C_SubRingL _ _ _ _ (by exact EQ.out)) ?_)); (refine qKo hK ?_; clear hK K)))
      refine tree_fin ?_
      clear HL0 F0 d1
      go_wp2
      go_roundw
      case rel =>
        rw [← ints_set, EA.out] at HL
        exact ⟨k + 1, L, by omega, by go_num, HL, S⟩
      case measure => simp [intOf]; omega
    · obtain rfl : k = N := by omega
      have hlx : ¬ k < xs.length := by rw [HN.out]; omega
      go_wp2_with (first | (refine qst HL S 2 ?_; clear F S HL; intro w L HL S F))
      ((try simp only [Exit.inBlock, Exit.then]); refine ret1 rfl (resCell S HL 2 rfl rfl (by kernel_rfl)) rfl ?_)
      refine ⟨_, rfl, ?_⟩
      rw [fil_full] at HL
      exact (by rw [HL.out] at S; exact S.sub (by repeat (first | exact .refl _ | exact List.nil_sublist _ | apply List.Sublist.cons_cons | apply List.Sublist.cons)))
theorem C_impl_SubL (R C N : Nat) (xs ys : List Int) (u v : Value) (w0 : World) (h : Ints w0 u xs) (h' : Ints w0 v ys) (r1 : 1 ≤ R) (r2 : R ≤ 5) (c1 : 1 ≤ C) (c2 : C ≤ 5) (hRC : R * C = N) (hN : xs.length = N) (hN' : ys.length = N) (hN2 : N ≤ 25) (a1 : xs.all rv = true) (a2 : ys.all rv = true) :
    Calls Tryz.prog 171 #[.agg #[.int .i64 R, .int .i64 C, u], .agg #[.int .i64 R, .int .i64 C, v]] w0 (MakesMx w0 R C (tab N (subV xs ys))) := by
  have CP := fun w h h' => C_pairSub R C N xs ys u v w h h' r1 r2 c1 c2 hRC hN hN' hN2 a1 a2
  unfold MakesMx at CP ⊢
  have HU := Lib.hid h
  have HV := Lib.hid h'
  obtain ⟨_, A1, k1, rfl, hk1, hm1, _⟩ := h
  obtain ⟨_, A2, k2, rfl, hk2, hm2, _⟩ := h'
  rw [tab_length] at CP
  rw [tab_length]
  generalize tab N (subV xs ys) = zs at CP ⊢
  clear hRC hN hN' a1 a2
  obtain ⟨L, HL, S⟩ := st_start w0; have F : True := trivial
  go_enter Tryz.func171, Tryz.ntmps171
  go_wp2_with (first | (refine qbx HL S ?_; clear F S HL; intro g w L HL S F) | (refine qal HL S zMx ?_; clear F S HL; intro g w L HL S F) | (refine qst HL S 0 ?_; clear F S HL; intro w L HL S F) | (refine qst HL S 1 ?_; clear F S HL; intro w L HL S F) | (refine qst HL S 2 ?_; clear F S HL; intro w L HL S F) | (refine qst HL S 3 ?_; clear F S HL; intro w L HL S F)  | (go_at_call 109; refine (CP _ (HU.out.at_ S) (HV.out.at_ S)).mono ?_; rintro e w ⟨u, rfl, T0⟩; have hX := qcl HL S T0; clear F S HL T0; obtain ⟨L, HL, S, F⟩ := hX; obtain ⟨A', cap', rfl, hcap', hmax'⟩ := qSl HL S 0))
  ((try simp only [Exit.inBlock, Exit.then]); refine ret1 rfl (resCell S HL 1 rfl rfl (by kernel_rfl)) rfl ?_)
  exact ⟨_, rfl, (by rw [HL.out] at S; exact S.sub (by repeat (first | exact .refl _ | exact List.nil_sublist _ | apply List.Sublist.cons_cons | apply List.Sublist.cons)))⟩
theorem C_impl_RandomMatrix (R C N : Nat) (s : Int) (w0 : World) (hs : seedOk s = true) (r1 : 1 ≤ R) (r2 : R ≤ 5) (c1 : 1 ≤ C) (c2 : C ≤ 5) (hRC : R * C = N) (hN2 : N ≤ 25) :
    Calls Tryz.prog 170 #[.int .i64 R, .int .i64 C, .int .i64 s] w0 fun e w => ∃ u, e = .returned (.tuple #[.agg #[.int .i64 R, .int .i64 C, u], .int .i64 (seedAt s N)]) ∧ St w0 w [.row 3 1 u N (ints (rndTo s N))] := by
  have CV := fun w => C_seedValid s w
  rw [hs] at CV
  have CN := fun w => C_RandomList s N w hs (by omega)
  unfold MakesRnd at CN
  have HR := Lib.hid (show sideOk (R : Int) = true from sideOk_iff.2 ⟨by omega, by omega⟩)
  have HC := Lib.hid (show sideOk (C : Int) = true from sideOk_iff.2 ⟨by omega, by omega⟩)
  have w1 : (R : Int) * (C : Int) = (N : Int) := by rw [← hRC, Int.natCast_mul]
  clear hRC hs
  obtain ⟨L, HL, S⟩ := st_start w0; have F : True := trivial
  go_enter Tryz.func170, Tryz.ntmps170
  go_upto_region 1 with (first | (refine qal HL S zMx ?_; clear F S HL; intro gr w L HL S F))
  go_upto_region 3 with (first | (go_at_call 112; refine qPu (C_sideValid' _ _ _ (by first | exact HR.out | exact HC.out)) ?_) | (go_at_call 52; refine qPu (CV _) ?_))
  go_wp2_with (first | (refine qst HL S 0 ?_; clear F S HL; intro w L HL S F) | (refine qst HL S 1 ?_; clear F S HL; intro w L HL S F) | (go_at_call 177; refine (CN _).mono ?_; rintro e w ⟨u, rfl, T0⟩; have hX := qcl HL S T0; clear F S HL T0; obtain ⟨L, HL, S, F⟩ := hX; obtain ⟨A', cap', rfl, hcap', hmax'⟩ := qSl HL S 0))
  refine ret2 rfl (resCell S HL 1 rfl rfl (by kernel_rfl)) (show _ = _ from rfl) rfl ?_
  exact ⟨_, rfl, (by rw [HL.out] at S; exact S.sub (by repeat (first | exact .refl _ | exact List.nil_sublist _ | apply List.Sublist.cons_cons | apply List.Sublist.cons)))⟩
end
end Go.Proofs.YtjgfjfjboimgdaaGreat
