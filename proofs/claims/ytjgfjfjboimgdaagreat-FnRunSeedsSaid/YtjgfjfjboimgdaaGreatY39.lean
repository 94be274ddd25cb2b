/- Spr DenI RunP SnP -/
import Derived.Test.YtjgfjfjboimgdaaGreatY34
import Derived.Test.YtjgfjfjboimgdaaGreatY38
namespace Go.Proofs.YtjgfjfjboimgdaaGreat
set_option linter.unusedSimpArgs false
set_option linter.unusedVariables false
set_option linter.unusedSectionVars false
open Go Go.RowKit
set_option maxHeartbeats 8000000
set_option maxRecDepth 20000
section
theorem spread_all {ys : List Int} (h : ys.all rv = true) (D n : Nat) : (tab n (spreadV ys D)).all rv = true := tab_all fun q _ => getD_rv h _
theorem C_spread (R D : Nat) (ys : List Int) (u : Value) (n : Nat) (w0 : World) (h : Sees w0 1 u n (ints ys)) (hn : n = R) (r1 : 1 ≤ R) (r2 : R ≤ 5) (d1 : 1 ≤ D) (d2 : D ≤ 5) :
    Calls Tryz.prog 119 #[.agg #[.int .i64 R, .int .i64 1, u], .int .i64 D] w0 fun e w' => ∃ u', e = .returned (.agg #[.int .i64 R, .int .i64 D, u']) ∧ St w0 w' [.row 3 1 u' (R * D) (ints (tab (R * D) (spreadV ys D)))] := by
  obtain ⟨N, hN⟩ : ∃ N, R * D = N := ⟨_, rfl⟩
  have b0 : N ≤ 25 := by
    have : R * D ≤ 5 * 5 := Nat.mul_le_mul r2 d2
    omega
  have p0 : 0 < N := by rw [← hN]; exact Nat.mul_pos r1 d1
  subst hn
  obtain ⟨l1, A1, k1, rfl, hk1, hm1', hA1⟩ := h
  obtain ⟨ba, oa, rfl, hba, hca⟩ := hA1 r1
  rw [ints_length, Nat.mul_one] at l1
  have HA := Lib.hid hca
  have HL1 := Lib.hid l1
  have HN := Lib.hid hN
  have CE : ∀ w, Calls Tryz.prog 103 #[.int .i64 n, .int .i64 D] w fun e w' => ∃ u', e = .returned (.agg #[.int .i64 n, .int .i64 D, u']) ∧ St w w' [.row 3 1 u' N (ints (tab N fun _ => 0))] := fun w => by
    have := C_emptyMatrix n D N w hN b0
    unfold MakesMx at this
    rw [tab_length] at this
    exact this
  rw [HN.out]
  clear hA1 hca l1 hN
  obtain ⟨L, HL, S⟩ := st_start w0; have F : True := trivial
  go_enter Tryz.func119, Tryz.ntmps119
  go_upto_region 1 with (first | (refine qbd 2 HL S ?_; clear F S HL; intro ga w L HL S F) | (refine qal HL S zMx ?_; clear F S HL; intro gr w L HL S F))
  go_upto_region 2 with (first | (refine qal HL S zMx ?_; clear F S HL; intro g5 w L HL S F) | (refine qst HL S 0 ?_; clear F S HL; intro w L HL S F) | (go_at_call 103; refine (CE _).mono ?_; rintro e w ⟨u, rfl, T0⟩; have hX := qcl HL S T0; clear F S HL T0; obtain ⟨L, HL, S, F⟩ := hX; obtain ⟨A', cap', rfl, hcap', hmax'⟩ := qSl HL S 0))
  obtain ⟨gn, cn, ev, hcv, hmv⟩ := S.rowAt (p := 1) (atOf HL rfl) p0
  obtain ⟨rfl, rfl⟩ : A' = some ⟨gn, 0, none⟩ ∧ cap' = cn := by injection ev with e1 _ e3; exact ⟨e1, e3⟩
  clear ev CE
  go_wp2
  go_loopw [14] (fun i wr => ∃ (k : Nat) (L : List Ent), k ≤ N ∧ i = .int .i64 k ∧ Hid (L = [.box g5 30 [.int .i64 n, .int .i64 D, .slice (some ⟨gn, 0, none⟩) N cap'], .row 3 1 (.slice (some ⟨gn, 0, none⟩) N cap') N (ints (tab N fun q => if q < k then spreadV ys D q else 0)), .box gr 30 [.int .i64 0, .int .i64 0, .slice none 0 0], .box ga 30 [.int .i64 n, .int .i64 1, .slice (some ⟨ba, oa, none⟩) n k1]]) ∧ St w0 wr L) (fun i _ => N - (intOf i).toNat)
  case atStart => exact ⟨0, L, Nat.zero_le _, rfl, Lib.hid (by rw [HL.out, fil_zero]), S⟩
  case round =>
    clear F HL S
    obtain ⟨k, L, hk, rfl, HL, S⟩ := hrel
    have F := factsAll HL S
    simp only [factsOf, cellsFrom, and_true, true_and, Nat.reduceAdd] at F
    by_cases hlt : k < N
    · obtain ⟨q, hq⟩ : ∃ q, k / D = q := ⟨_, rfl⟩
      have hqn : q < n := by rw [← hq]; exact Nat.div_lt_of_lt_mul (by rw [Nat.mul_comm, HN.out]; exact hlt)
      have et : (k : Int).tdiv (D : Int) = (q : Int) := by rw [Int.tdiv_eq_ediv_of_nonneg (by omega), ← hq]; rfl
      have hne : ((D : Int) == 0) = false := by rw [beq_eq_false_iff_ne]; omega
      have hne' : ¬ ((D : Int) = 0) := by omega
      have hne3 : ¬ D = 0 := by omega
      have ew : IntKind.i64.wrap (q : Int) = (q : Int) := wrap_nat rfl (by omega)
      have y0 := HA.out q _ (ints_getD ys q (by rw [HL1.out]; exact hqn))
      have ea := fil_set (spreadV ys D) N k
      have hz : ys.getD q 0 = spreadV ys D k := by rw [← hq]; rfl
      generalize spreadV ys D k = z at hz ea
      rw [hz] at y0
      have EA := Lib.hid ea
      clear ea hz hq
      have hqn' : (q : Int) < (n : Int) := by omega
      have hkN' : (k : Int) < (N : Int) := by omega
      go_upto_region 5 with fail
      have d0 := fun w' (S' : St w0 w' L) => (S'.below.cell (p := ⟨ba, oa + q, none⟩) hba).trans y0
      have HL0 := HL; have F0 := F; refine wp_region_tree (S := fun w' => St w0 w' L) (qcs 0 11 (.act 11 .fin .stop)) (by kernel_rfl) (by kernel_rfl) (by kernel_rfl) (by intro c a d v w h; cases d <;> exact h) ?_; dsimp only [qcs, Nat.reduceAdd]; replace S := S.drew
      repeat (first | refine qCa ?_ | refine qAn ?_ | refine qSk ?_ | (refine tree_act rfl rfl ?_ tree_stop; intro K hK; (refine wp_store_row S _ _ _ rfl 1 _ _ _ _ _ _ _ (atOf HL rfl) rfl _ rfl (by kernel_rfl) rfl (by omega) ?_; clear F S; intro w L hM S; replace HL := qNm HL hM; clear hM; have F := qFc HL S); (refine qKo hK ?_; clear hK K)) | (refine tree_act rfl rfl ?_ tree_stop; intro K hK; go_wp2_with (first | fail); (refine qKo hK ?_; clear hK K)))
      refine tree_fin ?_
      clear HL0 F0 d0
      go_wp2
      go_roundw
      case rel =>
        rw [← ints_set, EA.out] at HL
        exact ⟨k + 1, L, by omega, by go_num, HL, S⟩
      case measure => simp [intOf]; omega
    · obtain rfl : k = N := by omega
      go_wp2_with (first | (refine qst HL S 2 ?_; clear F S HL; intro w L HL S F))
      ((try simp only [Exit.inBlock, Exit.then]); refine ret1 rfl (resCell S HL 2 rfl rfl (by kernel_rfl)) rfl ?_)
      refine ⟨_, rfl, ?_⟩
      rw [fil_full] at HL
      exact (by rw [HL.out] at S; exact S.sub (by repeat (first | exact .refl _ | exact List.nil_sublist _ | apply List.Sublist.cons_cons | apply List.Sublist.cons)))
theorem C_l12Wide (R D : Nat) (ys : List Int) (u : Value) (n : Nat) (w0 : World) (h : Sees w0 1 u n (ints ys)) (hn : n = R) (r1 : 1 ≤ R) (r2 : R ≤ 5) (d1 : 1 ≤ D) (d2 : D ≤ 5) :
    Calls Tryz.prog 188 #[.agg #[.int .i64 R, .int .i64 1, u], .int .i64 D] w0 fun e w' => ∃ u', e = .returned (.agg #[.int .i64 R, .int .i64 D, u']) ∧ St w0 w' [.row 3 1 u' (R * D) (ints (tab (R * D) (spreadV ys D)))] := by
  obtain ⟨N, hN⟩ : ∃ N, R * D = N := ⟨_, rfl⟩
  have b0 : N ≤ 25 := by
    have : R * D ≤ 5 * 5 := Nat.mul_le_mul r2 d2
    omega
  subst hn
  obtain ⟨l1, A1, k1, rfl, hk1, hm1', hA1⟩ := h
  obtain ⟨ba, oa, rfl, hba, hca⟩ := hA1 r1
  rw [ints_length, Nat.mul_one] at l1
  have HA := Lib.hid hca
  have HL1 := Lib.hid l1
  have HN := Lib.hid hN
  rw [HN.out]
  clear hA1 hca l1 hN
  obtain ⟨L, HL, S⟩ := st_start w0; have F : True := trivial
  go_enter Tryz.func188, Tryz.ntmps188
  go_upto_region 1 with (first | (refine qbd 2 HL S ?_; clear F S HL; intro ga w L HL S F) | (refine qal HL S zMx ?_; clear F S HL; intro gr w L HL S F))
  go_upto_region 2 with (first | (refine qal HL S zMx ?_; clear F S HL; intro g5 w L HL S F) | (refine qst HL S 0 ?_; clear F S HL; intro w L HL S F))
  rw [HL.out] at S
  replace S := S.nilRow 3 1
  clear HL F
  obtain ⟨L, hM, T⟩ := st_name S; clear S; have S := T; clear T; have HL := Lib.hid hM; clear hM; have F := qFc HL S
  go_wp2
  go_loopw [6] (fun i wr => ∃ (j : Nat) (E1 : Option Addr) (e : Nat) (L : List Ent), j ≤ n ∧ i = .int .i64 j ∧ Hid (L = [.row 3 1 (.slice E1 (j * D) e) (j * D) (ints (tab (j * D) (spreadV ys D))), .box g5 30 [.int .i64 n, .int .i64 D, .slice E1 (j * D) e], .box gr 30 [.int .i64 0, .int .i64 0, .slice none 0 0], .box ga 30 [.int .i64 n, .int .i64 1, .slice (some ⟨ba, oa, none⟩) n k1]]) ∧ St w0 wr L) (fun i _ => n - (intOf i).toNat)
  case atStart => exact ⟨0, none, 0, L, Nat.zero_le _, rfl, Lib.hid (by rw [HL.out, Nat.zero_mul]; rfl), S⟩
  case round =>
    clear F HL S
    obtain ⟨j, E1, e, L, hj, rfl, HL, S⟩ := hrel
    have F := factsAll HL S
    simp only [factsOf, cellsFrom, and_true, true_and, Nat.reduceAdd] at F
    by_cases hlt : j < n
    · obtain ⟨m2, hm2⟩ : ∃ m2, j * D = m2 := ⟨_, rfl⟩
      have HM2 := Lib.hid hm2
      rw [hm2] at HL F
      clear hm2
      go_wp2
      go_loopw [7] (fun i wr => ∃ (c : Nat) (E1 : Option Addr) (e : Nat) (L : List Ent), c ≤ D ∧ i = .int .i64 c ∧ Hid (L = [.row 3 1 (.slice E1 (m2 + c) e) (m2 + c) (ints (tab (m2 + c) (spreadV ys D))), .box g5 30 [.int .i64 n, .int .i64 D, .slice E1 (m2 + c) e], .box gr 30 [.int .i64 0, .int .i64 0, .slice none 0 0], .box ga 30 [.int .i64 n, .int .i64 1, .slice (some ⟨ba, oa, none⟩) n k1]]) ∧ St w0 wr L) (fun i _ => D - (intOf i).toNat)
      case atStart => exact ⟨0, E1, e, L, Nat.zero_le _, rfl, HL, S⟩
      case round =>
        clear F HL S
        obtain ⟨c, E1, e, L, hc, rfl, HL, S⟩ := hrel
        have F := factsAll HL S
        simp only [factsOf, cellsFrom, and_true, true_and, Nat.reduceAdd] at F
        by_cases hlt2 : c < D
        · have hpn : m2 + c < N := by rw [← HM2.out, ← HN.out]; exact cell_lt hlt hlt2
          have hz : ys.getD j 0 = spreadV ys D (m2 + c) := by
            unfold spreadV
            rw [← HM2.out, dvd_at hlt2]
          have ea := tab_succ (m2 + c) (spreadV ys D)
          have y0 := HA.out j _ (ints_getD ys j (by rw [HL1.out]; exact hlt))
          obtain ⟨p, hp⟩ : ∃ p, m2 + c = p := ⟨_, rfl⟩
          rw [hp] at hz ea HL F hpn
          have HP := Lib.hid hp
          clear hp
          generalize spreadV ys D p = z at hz ea
          rw [hz] at y0
          have EA := Lib.hid ea
          clear hz ea
          have hjn' : (j : Int) < (n : Int) := by omega
          go_upto_region 8 with fail
          have hT := congrArg List.tail HL.out; simp only [List.tail_cons] at hT; obtain ⟨L1, hL1⟩ : ∃ M, M = L.tail := ⟨_, rfl⟩; rw [← hL1] at hT; have HL0 := Lib.hid hT; have S1 := S.sub (List.tail_sublist L); rw [← hL1] at S1; have F0 := qFc HL0 S1; clear S1 hL1 hT; (have d0 := fun w' (S' : St w0 w' L1) => (S'.below.cell (p := ⟨ba, oa + j, none⟩) hba).trans y0); refine wp_region_tree (S := fun w' => St w0 w' L1) (qcs 0 7 (.act 7 (.act 8 (.calm 9 (.act 10 .fin .stop)) .stop) .stop)) (by kernel_rfl) (by kernel_rfl) (by kernel_rfl) (by intro c a d v w h; cases d <;> exact h) ?_; dsimp only [qcs, Nat.reduceAdd]; replace S := S.drew
          repeat (first | refine qCa ?_ | refine qAn ?_ | refine qSk ?_ | (refine tree_act rfl rfl ?_ tree_stop; intro K hK; (refine wp_lit1 S _ _ rfl 3 Tryz.underlying23 infoInt _ rfl ?_; clear F S; intro g w L hM S; replace HL := qNm HL hM; clear hM; have F := qFc HL S); (refine qKo hK ?_; clear hK K)) | (refine tree_act rfl rfl ?_ tree_stop; intro K hK; (refine wp_append_box S _ _ _ rfl 3 _ 1 8 Tryz.underlying23 infoInt rfl (by omega) 1 _ _ _ rfl (atOf HL rfl) (by omega) 0 _ _ _ _ _ rfl (atOf HL rfl) rfl rfl rfl rfl ?_; clear F S; intro u w L hM S; replace HL := qNm HL hM; clear hM; have F := qFc HL S; obtain ⟨A', cap', rfl, hcap', hmax'⟩ := qSl HL S 1); (refine qKo hK ?_; clear hK K)) | (refine tree_act rfl rfl ?_ tree_stop; intro K hK; (refine qsw HL S 2 ?_; clear F S HL; intro w L HL S F); (refine qKo hK ?_; clear hK K)) | (refine tree_act rfl rfl ?_ tree_stop; intro K hK; go_wp2_with (first | fail); (refine qKo hK ?_; clear hK K)))
          refine tree_fin ?_
          clear HL0 F0 d0
          go_wp2
          go_roundw
          case rel =>
            have e1 : ints (tab p (spreadV ys D)) ++ [.int .i64 z] = ints (tab (p + 1) (spreadV ys D)) := by rw [EA.out, ints_append]; rfl
            rw [HL.out, e1] at S
            exact ⟨c + 1, _, _, _, by omega, by go_num, Lib.hid rfl, by rw [← Nat.add_assoc, HP.out]; exact S.sub (.cons _ (.refl _))⟩
          case measure => simp [intOf]; omega
        · obtain rfl : c = D := by omega
          go_wp2
          go_roundw
          case rel => exact ⟨j + 1, E1, e, L, by omega, by go_num, by rw [Nat.succ_mul, HM2.out]; exact HL, S⟩
          case measure => simp [intOf]; omega
    · obtain rfl : j = n := by omega
      rw [HN.out] at HL F
      go_wp2_with (first | (refine qst HL S 2 ?_; clear F S HL; intro w L HL S F))
      ((try simp only [Exit.inBlock, Exit.then]); refine ret1 rfl (resCell S HL 2 rfl rfl (by kernel_rfl)) rfl ?_)
      exact ⟨_, rfl, (by rw [HL.out] at S; exact S.sub (by repeat (first | exact .refl _ | exact List.nil_sublist _ | apply List.Sublist.cons_cons | apply List.Sublist.cons)))⟩
end
section
def denseL (ws bs xs : List Int) (R C D : Nat) : List Int := tab (R * D) (sumsV (cutV ws xs R C D) (tab (R * D) (spreadV bs D)))
theorem addR_rv {a b : Int} (ha : rv a = true) (hb : rv b = true) : rv (addR a b) = true := by
  unfold addR
  rw [ha, hb]
  exact rv_ro _
theorem denseL_len (ws bs xs : List Int) (R C D : Nat) : (denseL ws bs xs R C D).length = R * D := tab_length _ _
theorem denseL_all {ws bs xs : List Int} {R C D : Nat} (hb : bs.all rv = true) : (denseL ws bs xs R C D).all rv = true :=
  tab_all fun q _ => addR_rv (getD_rv (cutV_all _ _ _ _ _) q) (getD_rv (spread_all hb _ _) q)
theorem C_clone (N cap b off : Nat) (xs : List Int) (w0 : World) (h : Sees w0 1 (.slice (some ⟨b, off, none⟩) N cap) N (ints xs)) (hn : N ≤ 1048576) :
    Calls Tryz.prog 117 #[.slice (some ⟨b, off, none⟩) N cap] w0 fun e w' => ∃ u', e = .returned u' ∧ St w0 w' [.row 3 1 u' N (ints xs)] := by
  have H := Lib.hid h
  clear h
  have q : ∀ (w : World) (a : Option Addr) (n c n' c' : Nat), (binOp .eql 23 (.slice a n c) (.slice none n' c')).run Tryz.prog w = .ok (.bool a.isNone) w := fun w a n c n' c' => Lib.run_eql_slice_nil w _ _ a n c n' c' Tryz.underlying23
  obtain ⟨L, HL, S⟩ := st_start w0; have F : True := trivial
  go_enter Tryz.func117, Tryz.ntmps117
  go_wp2_with (first | (refine qbx HL S ?_; clear F S HL; intro g w L HL S F)  | (refine qst HL S 0 ?_; clear F S HL; intro w L HL S F) | (refine qst HL S 1 ?_; clear F S HL; intro w L HL S F) | (refine qst HL S 2 ?_; clear F S HL; intro w L HL S F) | (refine qst HL S 3 ?_; clear F S HL; intro w L HL S F)  | (refine wpList_empty rfl S _ rfl 3 Tryz.underlying23 infoInt ?_; clear F S; intro g w L hM S; replace HL := qNm HL hM; clear hM; have F := qFc HL S) | (refine wpList_append_see rfl S _ _ _ rfl _ 3 _ 1 8 Tryz.underlying23 infoInt rfl (by omega) _ _ _ rfl qAt _ _ _ rfl (H.out.at_ S) (ints_one _) (by simp only [maxLen]; omega) (by omega) ?_; clear F S; intro u' w L hM S; replace HL := qNm HL hM; clear hM; have F := qFc HL S))
  go_ret
  rw [HL.out] at S
  exact ⟨_, rfl, S⟩
theorem C_copyMatrix (R C : Int) (N : Nat) (xs : List Int) (u : Value) (w0 : World) (h : Sees w0 1 u N (ints xs)) (p0 : 0 < N) (hn : N ≤ 1048576) :
    Calls Tryz.prog 74 #[.agg #[.int .i64 R, .int .i64 C, u]] w0 fun e w' => ∃ u', e = .returned (.agg #[.int .i64 R, .int .i64 C, u']) ∧ St w0 w' [.row 3 1 u' N (ints xs)] := by
  have H := Lib.hid h
  obtain ⟨l1, A1, k1, rfl, hk1, hm1', hA1⟩ := h
  obtain ⟨ba, oa, rfl, hba, hca⟩ := hA1 p0
  clear hA1 hca l1
  obtain ⟨L, HL, S⟩ := st_start w0; have F : True := trivial
  go_enter Tryz.func74, Tryz.ntmps74
  go_upto_region 1 with (first | (refine qbd 1 HL S ?_; clear F S HL; intro ga w L HL S F) | (refine qal HL S zMx ?_; clear F S HL; intro gr w L HL S F))
  have HL0 := HL; have F0 := F; refine wp_region_tree (S := fun w' => St w0 w' L) (qcs 0 6 (.act 6 (.calm 7 (.act 8 .fin .stop)) .stop)) (by kernel_rfl) (by kernel_rfl) (by kernel_rfl) (by intro c a d v w h; cases d <;> exact h) ?_; dsimp only [qcs, Nat.reduceAdd]; replace S := S.drew
  repeat (first | refine qCa ?_ | refine qAn ?_ | refine qSk ?_ | (refine tree_act rfl rfl ?_ tree_stop; intro K hK; (refine qsw HL S 1 ?_; clear F S HL; intro w L HL S F); (refine qKo hK ?_; clear hK K)) | (refine tree_act rfl rfl ?_ tree_stop; intro K hK; go_wp2_with (first | (go_at_call 117; refine (C_clone _ _ _ _ _ _ (H.out.at_ S) hn).mono ?_; rintro e w ⟨u, rfl, T0⟩; have hX := qcl HL S T0; clear F S HL T0; obtain ⟨L, HL, S, F⟩ := hX; obtain ⟨A', cap', rfl, hcap', hmax'⟩ := qSl HL S 0)); (refine qKo hK ?_; clear hK K)))
  refine tree_fin ?_
  go_wp2
  ((try simp only [Exit.inBlock, Exit.then]); refine ret1 rfl (resCell S HL 1 rfl rfl (by kernel_rfl)) rfl ?_)
  exact ⟨_, rfl, (by rw [HL.out] at S; exact S.sub (by repeat (first | exact .refl _ | exact List.nil_sublist _ | apply List.Sublist.cons_cons | apply List.Sublist.cons)))⟩
end
section
def runLy (l : Ly) (x : Mx) : Mx := match l.ws with
  | [] => ⟨x.r, x.c, mapL 2 x.xs⟩
  | [w, b] => ⟨w.r, x.c, denseL w.xs b.xs x.xs w.r.toNat w.c.toNat x.c.toNat⟩
  | [a, b, c] => ⟨x.r, x.c, mixL a.xs b.xs c.xs x.xs x.r.toNat x.c.toNat⟩
  | _ => Mx.zero
def runFrom : List Ly → Mx → Mx
  | [], x => x
  | l :: ls, x => runFrom ls (runLy l x)
def runPlain (ls : List Ly) (x : Mx) : Mx := if x.ok && (netSides ls x.r x.c).isSome then runFrom ls x else Mx.zero
theorem dense_parts {w b : Mx} (h : denseFit w b = true) : ∃ (R C : Nat) (ws bs : List Int), 1 ≤ R ∧ R ≤ 5 ∧ 1 ≤ C ∧ C ≤ 5 ∧ w = ⟨R, C, ws⟩ ∧ b = ⟨R, 1, bs⟩ ∧ ws.length = R * C ∧ bs.length = R ∧ ws.all rv = true ∧ bs.all rv = true := by
  simp only [denseFit, Bool.and_eq_true, decide_eq_true_eq] at h
  obtain ⟨⟨⟨hw, hb⟩, h1⟩, h2⟩ := h
  obtain ⟨rw', cw, ws⟩ := w
  obtain ⟨rb, cb, bs⟩ := b
  dsimp only at h1 h2
  subst h1 h2
  obtain ⟨R, C, N, e, r1, r2, c1, c2, n1, n2, _, n3⟩ := Mx.ok_nat hw
  obtain ⟨R', C', N', e', _, _, _, _, n1', n2', _, n3'⟩ := Mx.ok_nat hb
  dsimp only at e e' n2 n3 n2' n3'
  simp only [Mx.mk.injEq, and_true] at e e'
  obtain ⟨e1, e2⟩ := e
  obtain rfl : R' = R := by omega
  obtain rfl : C' = 1 := by omega
  refine ⟨R', C, ws, bs, r1, r2, c1, c2, ?_, ?_, by omega, by omega, n3, n3'⟩
  · simp only [Mx.mk.injEq, and_true]; omega
  · simp only [Mx.mk.injEq, and_true]; omega
inductive RunCase : Ly → Mx → Prop
  | dense (R C D : Nat) (ws bs xs : List Int) (r1 : 1 ≤ R) (r2 : R ≤ 5) (c1 : 1 ≤ C) (c2 : C ≤ 5) (d1 : 1 ≤ D) (d2 : D ≤ 5) (lw : ws.length = R * C) (lb : bs.length = R) (lx : xs.length = C * D) (aw : ws.all rv = true) (ab : bs.all rv = true) (ax : xs.all rv = true) :
      RunCase ⟨1, [⟨R, C, ws⟩, ⟨R, 1, bs⟩]⟩ ⟨C, D, xs⟩
  | ramp (R C : Nat) (xs : List Int) (r1 : 1 ≤ R) (r2 : R ≤ 5) (c1 : 1 ≤ C) (c2 : C ≤ 5) (lx : xs.length = R * C) (ax : xs.all rv = true) : RunCase ⟨2, []⟩ ⟨R, C, xs⟩
  | mix (X Y : Nat) (a b c xs : List Int) (x1 : 1 ≤ X) (x2 : X ≤ 5) (y1 : 1 ≤ Y) (y2 : Y ≤ 5) (la : a.length = Y * Y) (lb : b.length = Y * Y) (lc : c.length = Y * Y) (lx : xs.length = X * Y) (aa : a.all rv = true) (ab : b.all rv = true) (ac : c.all rv = true) (ax : xs.all rv = true) :
      RunCase ⟨3, [⟨Y, Y, a⟩, ⟨Y, Y, b⟩, ⟨Y, Y, c⟩]⟩ ⟨X, Y, xs⟩
theorem run_case {l : Ly} {x : Mx} {p : Int × Int} (hl : l.ok = true) (hx : x.ok = true) (hs : l.sides x.r x.c = some p) : RunCase l x := by
  obtain ⟨X, Z, N, e0, x1, x2, z1, z2, hXZ, hN, _, hall⟩ := Mx.ok_nat hx
  obtain ⟨r, c, xs⟩ := x
  dsimp only at e0 hN hall hs
  obtain ⟨rfl, rfl⟩ : r = X ∧ c = Z := by injection e0 with e1 e2 _; exact ⟨e1, e2⟩
  cases Ly.ok_case hl with
  | dense w b hd =>
    obtain ⟨R, C, ws, bs, r1, r2, c1, c2, rfl, rfl, lw, lb, aw, ab⟩ := dense_parts hd
    simp only [Ly.sides] at hs
    split at hs
    · obtain rfl : C = X := by omega
      exact .dense R C Z ws bs xs r1 r2 c1 c2 z1 z2 lw lb (hN.trans hXZ.symm) aw ab hall
    · cases hs
  | ramp => exact .ramp X Z xs x1 x2 z1 z2 (hN.trans hXZ.symm) hall
  | mix a b c hd =>
    obtain ⟨Y, xa, xb, xc, y1, y2, rfl, rfl, rfl, la, lb, lc, aa, ab, ac⟩ := mix_parts hd
    simp only [Ly.sides] at hs
    split at hs
    · obtain rfl : Y = Z := by omega
      exact .mix X Y xa xb xc xs x1 x2 y1 y2 la lb lc (hN.trans hXZ.symm) aa ab ac hall
    · cases hs
theorem runLy_next {l : Ly} {x : Mx} {r c : Int} (hl : l.ok = true) (hx : x.ok = true) (hs : l.sides x.r x.c = some (r, c)) : (runLy l x).ok = true ∧ (runLy l x).r = r ∧ (runLy l x).c = c := by
  cases run_case hl hx hs with
  | dense R C D ws bs xs r1 r2 c1 c2 d1 d2 lw lb lx aw ab ax =>
    simp only [Ly.sides, if_true, Option.some.injEq, Prod.mk.injEq] at hs
    exact ⟨Mx.ok_of r1 r2 d1 d2 (denseL_len _ _ _ _ _ _) (denseL_all ab), hs.1, hs.2⟩
  | ramp R C xs r1 r2 c1 c2 lx ax =>
    simp only [Ly.sides, Option.some.injEq, Prod.mk.injEq] at hs
    exact ⟨Mx.ok_of r1 r2 c1 c2 (by rw [mapL_len, lx]) (mapL_all ax), hs.1, hs.2⟩
  | mix X Y a b c xs x1 x2 y1 y2 la lb lc lx aa ab ac ax =>
    simp only [Ly.sides, if_true, Option.some.injEq, Prod.mk.injEq] at hs
    exact ⟨Mx.ok_of x1 x2 y1 y2 (cutV_len _ _ _ _ _) (cutV_all _ _ _ _ _), hs.1, hs.2⟩
theorem from_cons {l : Ly} {ls : List Ly} {r c : Int} {x : Int × Int} (hr : 1 ≤ r ∧ r ≤ 5) (hc : 1 ≤ c ∧ c ≤ 5) (h : sidesFrom (l :: ls) r c = some x) :
    ∃ a b, l.ok = true ∧ l.sides r c = some (a, b) ∧ (1 ≤ a ∧ a ≤ 5) ∧ (1 ≤ b ∧ b ≤ 5) ∧ sidesFrom ls a b = some x := by
  unfold sidesFrom at h
  split at h
  · rename_i hok
    split at h
    · rename_i a b hs
      obtain ⟨ha, hb⟩ := Ly.sides_ok hok hr hc hs
      exact ⟨a, b, hok, hs, ha, hb, h⟩
    · cases h
  · cases h
theorem sides_some {ls : List Ly} {r c : Int} {x : Int × Int} (h : netSides ls r c = some x) : ls.length ≤ 4 ∧ (1 ≤ r ∧ r ≤ 5) ∧ (1 ≤ c ∧ c ≤ 5) ∧ sidesFrom ls r c = some x := by
  unfold netSides at h
  split at h
  · rename_i hc
    simp only [Bool.and_eq_true, decide_eq_true_eq, sideOk_iff] at hc
    exact ⟨hc.1.1, hc.1.2, hc.2, h⟩
  · cases h
end
section
theorem mx_eta {m : Mx} {r c : Int} (h1 : m.r = r) (h2 : m.c = c) : m = ⟨r, c, m.xs⟩ := by
  subst h1 h2
  rfl
theorem add_four {a b c d : Int} (ha : rv a = true) (hb : rv b = true) (hc : rv c = true) (hd : rv d = true) : addR (addR a b) (addR c d) = addR (addR a c) (addR b d) := by
  rw [addR_ok ha hb, addR_ok hc hd, addR_ok ha hc, addR_ok hb hd, addR_ok (rv_ro _) (rv_ro _), addR_ok (rv_ro _) (rv_ro _)]
  unfold ro
  omega
theorem dense_good {w b x : SMx} {s : Int} (hw : w.ok = true) (hb : b.ok = true) (hx : x.ok = true) (hs : seedOk s = true) (h1 : w.a.c = x.a.r) (h2 : b.a.c = 1) (h3 : b.a.r = w.a.r) :
    Good (denseS w b x s) (runLy ⟨1, [joinMx w, joinMx b]⟩ (joinMx x)) (w.a.r * w.a.c + x.a.r * x.a.c + w.a.r * x.a.c) := by
  have gc := cut_good hw hx h1 hs
  unfold denseS
  generalize cutS w x s = z at gc ⊢
  have zr : z.m.a.r = w.a.r := by rw [gc.sides.1]; exact (join_smx hw).2.1
  have zc : z.m.a.c = x.a.c := by rw [gc.sides.2]; exact (join_smx hx).2.2.1
  have jz := gc.join
  have hz := gc.ok
  obtain ⟨⟨za, zb⟩, zo, zl⟩ := z
  dsimp only at zr zc jz hz ⊢
  obtain ⟨R, D, N, pa, pb, e0, r1, r2, c1, c2, hRC, hN, hN', hN2, p1, p2⟩ := smx_nat hz
  injection e0 with e1 e2
  subst e1 e2
  obtain ⟨B, C', M, ba, bb, rfl, b1, b2, b3, b4, hBC, hM, hM', hM2, q1, q2⟩ := smx_nat hb
  dsimp only at zr zc h2 h3
  obtain rfl : B = R := by omega
  obtain rfl : C' = 1 := by omega
  have hM1 : M = B := by omega
  subst hM1
  have eD : x.a.c.toNat = D := by omega
  rw [eD]
  have sl : ∀ l : List Int, (spreadMx ⟨(M : Int), 1, l⟩ D) = ⟨M, D, tab (M * D) (spreadV l D)⟩ := fun l => rfl
  have sall : ∀ l : List Int, l.all rv = true → (tab (M * D) (spreadV l D)).all rv = true := fun l hl => tab_all fun q _ => getD_rv hl _
  have like2 : ∀ l l' : List Int, l.length = M * D → l'.length = M * D → l.all rv = true → l'.all rv = true → likeMx ⟨(M : Int), D, l⟩ ⟨M, D, l'⟩ = true := fun l l' g1 g2 g3 g4 => by
    have o1 : (Mx.mk M D l).ok = true := Mx.ok_of r1 r2 c1 c2 (by rw [g1]) g3
    have o2 : (Mx.mk M D l').ok = true := Mx.ok_of r1 r2 c1 c2 (by rw [g2]) g4
    simp [likeMx, o1, o2]
  have la : pa.length = M * D := by rw [hN, hRC]
  have lb : pb.length = M * D := by rw [hN', hRC]
  have k1 := like2 pa (tab (M * D) (spreadV ba D)) la (tab_length _ _) p1 (sall ba q1)
  have k2 := like2 pb (tab (M * D) (spreadV bb D)) lb (tab_length _ _) p2 (sall bb q2)
  have k3 := like2 (tab (M * D) (sumsV pa (tab (M * D) (spreadV ba D)))) (tab (M * D) (sumsV pb (tab (M * D) (spreadV bb D)))) (tab_length _ _) (tab_length _ _) (sums_all p1 (sall ba q1)) (sums_all p2 (sall bb q2))
  have hj : joinMx ⟨⟨M, D, pa⟩, ⟨M, D, pb⟩⟩ = ⟨M, D, tab (M * D) (sumsV pa pb)⟩ := by
    unfold joinMx
    rw [sumMx_ok hz]
    dsimp only
    rw [la]
  have hjb : joinMx ⟨⟨M, ((1 : Nat) : Int), ba⟩, ⟨M, ((1 : Nat) : Int), bb⟩⟩ = ⟨M, ((1 : Nat) : Int), tab M (sumsV ba bb)⟩ := by
    have hb' : likeMx ⟨(M : Int), ((1 : Nat) : Int), ba⟩ ⟨M, ((1 : Nat) : Int), bb⟩ = true := hb
    unfold joinMx
    rw [sumMx_ok hb']
    dsimp only
    rw [hM]
  refine ⟨?_, ?_, gc.seed, gc.len⟩
  · show likeMx (sumMx ⟨M, D, pa⟩ (spreadMx ⟨(M : Int), 1, ba⟩ D)) (sumMx ⟨M, D, pb⟩ (spreadMx ⟨(M : Int), 1, bb⟩ D)) = true
    rw [sl, sl, sumMx_ok k1, sumMx_ok k2]
    dsimp only
    rw [la, lb]
    exact k3
  · show sumMx (sumMx ⟨M, D, pa⟩ (spreadMx ⟨(M : Int), 1, ba⟩ D)) (sumMx ⟨M, D, pb⟩ (spreadMx ⟨(M : Int), 1, bb⟩ D)) = _
    rw [sl, sl, sumMx_ok k1, sumMx_ok k2]
    dsimp only
    rw [la, lb, sumMx_ok k3]
    dsimp only
    rw [tab_length]
    have jw := join_smx hw
    have jx := join_smx hx
    obtain ⟨W, K, _, wa, wb, rfl, _, _, _, _, _, _, _, _, _, _⟩ := smx_nat hw
    obtain ⟨K', D', _, xa, xb, rfl, _, _, _, _, _, _, _, _, _, _⟩ := smx_nat hx
    dsimp only at zr zc h1 jw jx eD
    obtain rfl : W = M := by omega
    obtain rfl : K' = K := by omega
    obtain rfl : D' = D := by omega
    have ew : joinMx ⟨⟨W, K', wa⟩, ⟨W, K', wb⟩⟩ = ⟨W, K', (joinMx ⟨⟨W, K', wa⟩, ⟨W, K', wb⟩⟩).xs⟩ := mx_eta jw.2.1 jw.2.2.1
    have ex : joinMx ⟨⟨K', D', xa⟩, ⟨K', D', xb⟩⟩ = ⟨K', D', (joinMx ⟨⟨K', D', xa⟩, ⟨K', D', xb⟩⟩).xs⟩ := mx_eta jx.2.1 jx.2.2.1
    rw [hj, ew, ex, cutMul_eq] at jz
    injection jz with _ _ jv
    rw [hjb, ew, ex]
    show Mx.mk (W : Int) (D' : Int) _ = Mx.mk (W : Int) (D' : Int) (denseL _ (tab W (sumsV ba bb)) _ W K' D')
    unfold denseL
    rw [← jv]
    refine congrArg (Mx.mk (W : Int) (D' : Int)) (tab_congr _ _ _ fun i hi => ?_)
    have hdv : i / D' < W := Nat.div_lt_of_lt_mul (by rw [Nat.mul_comm]; exact hi)
    show addR ((tab _ _).getD i 0) ((tab _ _).getD i 0) = addR ((tab _ _).getD i 0) ((tab _ _).getD i 0)
    rw [tab_getD _ _ _ hi, tab_getD _ _ _ hi, tab_getD _ _ _ hi, tab_getD _ _ _ hi]
    show addR (addR _ ((tab _ _).getD i 0)) (addR _ ((tab _ _).getD i 0)) = addR (addR _ _) ((tab W (sumsV ba bb)).getD (i / D') 0)
    rw [tab_getD _ _ _ hi, tab_getD _ _ _ hi, tab_getD _ _ _ hdv]
    exact add_four (getD_rv p1 i) (getD_rv q1 _) (getD_rv p2 i) (getD_rv q2 _)
theorem zero_not : Mx.zero.ok = false := by simp [Mx.zero, Mx.ok, sideOk]
theorem join_inv {m : SMx} (h : (joinMx m).ok = true) : m.ok = true := by
  cases hl : likeMx m.a m.b with
  | true => exact hl
  | false =>
    unfold joinMx at h
    rw [sumMx_not hl, zero_not] at h
    cases h
theorem step_good {l : SLy} {x : SMx} {s : Int} {p : Int × Int} (hl : (joinLy l).ok = true) (hx : x.ok = true) (hs : seedOk s = true) (hd : (joinLy l).sides x.a.r x.a.c = some p) :
    Good (stepS l x s) (runLy (joinLy l) (joinMx x)) ((joinLy l).needs x.a.r x.a.c).o := by
  obtain ⟨jx0, jx1, jx2, _⟩ := join_smx hx
  obtain ⟨kind, ws⟩ := l
  match ws with
  | [] =>
    have g := map_good (k := 2) ⟨by omega, by omega⟩ hx hs
    refine ⟨g.ok, ?_, g.seed, g.len⟩
    exact g.join
  | [w, b] =>
    have hl' : denseFit (joinMx w) (joinMx b) = true := by
      have : (decide (kind = 1) && denseFit (joinMx w) (joinMx b)) = true := hl
      rw [Bool.and_eq_true] at this
      exact this.2
    simp only [denseFit, Bool.and_eq_true, decide_eq_true_eq] at hl'
    obtain ⟨⟨⟨h1, h2⟩, h3⟩, h4⟩ := hl'
    have hw := join_inv h1
    have hb := join_inv h2
    have hwc : (joinMx w).c = x.a.r := by
      have hd' : (if (joinMx w).c = x.a.r then some ((joinMx w).r, x.a.c) else none) = some p := hd
      split at hd'
      · assumption
      · cases hd'
    obtain ⟨_, jw1, jw2, _⟩ := join_smx hw
    obtain ⟨_, jb1, jb2, _⟩ := join_smx hb
    have g := dense_good hw hb hx hs (by rw [← jw2]; exact hwc) (by rw [← jb2]; exact h3) (by rw [← jb1, ← jw1]; exact h4)
    refine ⟨g.ok, g.join, g.seed, ?_⟩
    rw [show ((stepS ⟨kind, [w, b]⟩ x s).os.length : Int) = _ from g.len]
    show _ = (prodNeed (joinMx w).r x.a.r x.a.c).o
    unfold prodNeed
    dsimp only
    rw [jw1, ← jw2, hwc]
  | [a, b, c] =>
    have hl' : mixFit (joinMx a) (joinMx b) (joinMx c) = true := by
      have : (decide (kind = 3) && mixFit (joinMx a) (joinMx b) (joinMx c)) = true := hl
      rw [Bool.and_eq_true] at this
      exact this.2
    simp only [mixFit, Bool.and_eq_true, decide_eq_true_eq] at hl'
    obtain ⟨⟨⟨⟨⟨h1, h2⟩, h3⟩, h4⟩, h5, h6⟩, h7, h8⟩ := hl'
    have ha := join_inv h1
    have hb := join_inv h2
    have hc := join_inv h3
    have hac : (joinMx a).r = x.a.c := by
      have hd' : (if (joinMx a).r = x.a.c then some (x.a.r, x.a.c) else none) = some p := hd
      split at hd'
      · assumption
      · cases hd'
    obtain ⟨_, ja1, ja2, _⟩ := join_smx ha
    obtain ⟨_, jb1, jb2, _⟩ := join_smx hb
    obtain ⟨_, jc1, jc2, _⟩ := join_smx hc
    have g := mix_good ha hb hc hx hs (by omega) (by omega) (by omega) (by omega) (by omega) (by omega)
    refine ⟨g.ok, ?_, g.seed, g.len⟩
    have e := g.join
    show joinMx (mixS a b c x s).m = _
    rw [e]
    obtain ⟨X, Z, N, xs, e0, x1, x2, z1, z2, hXZ, hN, hall⟩ : ∃ (X Z N : Nat) (xs : List Int), joinMx x = ⟨X, Z, xs⟩ ∧ 1 ≤ X ∧ X ≤ 5 ∧ 1 ≤ Z ∧ Z ≤ 5 ∧ X * Z = N ∧ xs.length = N ∧ xs.all rv = true := by
      obtain ⟨X, Z, N, e0, x1, x2, z1, z2, hXZ, hN, _, hall⟩ := Mx.ok_nat jx0
      exact ⟨X, Z, N, _, e0, x1, x2, z1, z2, by omega, by omega, hall⟩
    have f1 : x.a.c = Z := by rw [← jx2, e0]
    have fa : joinMx a = ⟨Z, Z, (joinMx a).xs⟩ := mx_eta (by omega) (by omega)
    have fb : joinMx b = ⟨Z, Z, (joinMx b).xs⟩ := mx_eta (by omega) (by omega)
    have fc : joinMx c = ⟨Z, Z, (joinMx c).xs⟩ := mx_eta (by omega) (by omega)
    show _ = runLy ⟨kind, [joinMx a, joinMx b, joinMx c]⟩ (joinMx x)
    rw [fa, fb, fc, e0, mixRun_eq x1 x2 z1 z2 (by omega) hall]
    rfl
  | _ :: _ :: _ :: _ :: _ =>
    have : (false : Bool) = true := hl
    cases this
def runFromS : List SLy → SMx → Int → Scd
  | [], x, s => ⟨x, [], s⟩
  | l :: ls, x, s => ⟨(runFromS ls (stepS l x s).m (stepS l x s).last).m, (stepS l x s).os ++ (runFromS ls (stepS l x s).m (stepS l x s).last).os, (runFromS ls (stepS l x s).m (stepS l x s).last).last⟩
theorem runFromS_good : ∀ (ls : List SLy) (x : SMx) (s : Int) (p : Int × Int), x.ok = true → seedOk s = true → sidesFrom (ls.map joinLy) x.a.r x.a.c = some p →
    Good (runFromS ls x s) (runFrom (ls.map joinLy) (joinMx x)) (needsFrom (ls.map joinLy) x.a.r x.a.c).o
  | [], x, s, _, hx, hs, _ => ⟨hx, rfl, hs, rfl⟩
  | l :: ls, x, s, p, hx, hs, h => by
    obtain ⟨jx0, jx1, jx2, _⟩ := join_smx hx
    have hsd := Mx.ok_sides jx0
    rw [jx1, jx2] at hsd
    obtain ⟨a, d, hlok, hd, _, _, hrest⟩ := from_cons (l := joinLy l) (ls := ls.map joinLy) hsd.1 hsd.2 h
    have g := step_good hlok hx hs hd
    obtain ⟨n1, n2, n3⟩ := runLy_next hlok jx0 (by rw [jx1, jx2]; exact hd)
    obtain ⟨s1, s2⟩ := g.sides
    rw [n2] at s1
    rw [n3] at s2
    have g2 := runFromS_good ls (stepS l x s).m (stepS l x s).last p g.ok g.seed (by rw [s1, s2]; exact hrest)
    refine ⟨g2.ok, ?_, g2.seed, ?_⟩
    · show joinMx (runFromS ls (stepS l x s).m (stepS l x s).last).m = runFrom (ls.map joinLy) (runLy (joinLy l) (joinMx x))
      rw [g2.join, g.join]
    · show (((stepS l x s).os ++ (runFromS ls (stepS l x s).m (stepS l x s).last).os).length : Int) = _
      rw [List.length_append, Int.natCast_add, g.len, g2.len, s1, s2]
      have e : needsFrom (joinLy l :: ls.map joinLy) x.a.r x.a.c = ((joinLy l).needs x.a.r x.a.c).add (needsFrom (ls.map joinLy) a d) := by simp only [needsFrom, hd]
      show _ = (needsFrom (joinLy l :: ls.map joinLy) x.a.r x.a.c).o
      rw [e]
      rfl
def runOk (ls : List SLy) (x : SMx) (s : Int) : Bool := (joinRes ls).1 && x.ok && seedOk s && (netSides (joinRes ls).2 x.a.r x.a.c).isSome
def runS (ls : List SLy) (x : SMx) (s : Int) : Scd := if runOk ls x s then runFromS ls x s else ⟨SMx.zero, [], 0⟩
theorem runS_not {ls : List SLy} {x : SMx} {s : Int} (h : runOk ls x s = false) : runS ls x s = ⟨SMx.zero, [], 0⟩ := by
  unfold runS
  rw [h]
  rfl
end
end Go.Proofs.YtjgfjfjboimgdaaGreat
