/-
  Contracts: products of matrices, matrices mapped, sums of rows (the program's).
-/
import Derived.Test.YtdfpceobfficfaaMxP
import Derived.Test.YtdfpceobfficfaaMatU
namespace Go.Proofs.Ytdfpceobfficfaa
set_option linter.unusedSimpArgs false
set_option linter.unusedVariables false
set_option linter.unusedSectionVars false
open Go Go.RowKit
set_option maxHeartbeats 8000000
set_option maxRecDepth 20000
theorem C_RingOf' (a q : Int) (w0 : World) (h : ro a = q) : Calls Try.prog 127 #[.int .i64 a] w0 fun e w' => e = .returned (.int .i64 q) ∧ w0 = w' := h ▸ C_impl_RingOf a w0
theorem C_valueAt (C N cap b off k c m : Nat) (R y : Int) (w0 : World) (hk : k ≤ 5) (hC : C ≤ 5) (hm : k * C = m) (hc : c < C) (hN : m + c < N) (hN2 : N ≤ cap) (hcap : cap ≤ maxLen) (hb : b < w0.heap.size) (hy : w0.cell? ⟨b, off + (m + c), none⟩ = some (.int .i64 y)) :
    Calls Try.prog 162 #[.agg #[.int .i64 R, .int .i64 C, .slice (some ⟨b, off, none⟩) N cap], .int .i64 k, .int .i64 c] w0 fun e w' => e = .returned (.int .i64 y) ∧ Below w0.heap.size w0 w' := by
  have h2 : m ≤ 25 := by
    have : k * C ≤ 5 * 5 := Nat.mul_le_mul hk hC
    omega
  have w1 : (k : Int) * (C : Int) = (m : Int) := by rw [← hm, Int.natCast_mul]
  unfold maxLen at hcap
  clear hm
  obtain ⟨L, HL, S⟩ := st_start w0; have F : True := trivial
  go_enter Try.func162, Try.ntmps162
  go_upto_region 1 with (first | (refine wpList_box rfl S _ _ rfl ?_; intro g w L hM T; clear F S; (try rw [HL.out] at hM); clear HL; (try simp [Act.put, Act.eval, Value.cells, splice] at hM); have HL := Lib.hid hM; clear hM; have S := T; clear T; have F := factsAll HL S; (try simp only [factsOf, cellsFrom, and_true, true_and, Nat.reduceAdd] at F)))
  have c0 := (S.below.cell (p := ⟨b, off + (m + c), none⟩) hb).trans hy
  go_wp2
  go_ret
  exact ⟨rfl, S.below⟩
theorem C_impl_Mul (R C D : Nat) (xs ys : List Int) (u v : Value) (w0 : World) (h : Ints w0 u xs) (h' : Ints w0 v ys) (r1 : 1 ≤ R) (r2 : R ≤ 5) (c1 : 1 ≤ C) (c2 : C ≤ 5) (d1 : 1 ≤ D) (d2 : D ≤ 5) (hl : xs.length = R * C) (hl' : ys.length = C * D) (a1 : xs.all rv = true) (a2 : ys.all rv = true) :
    Calls Try.prog 158 #[.agg #[.int .i64 R, .int .i64 C, u], .agg #[.int .i64 C, .int .i64 D, v]] w0 (MakesMx w0 R D (tab (R * D) (mulAt xs ys C D))) := by
  obtain ⟨N, hN⟩ : ∃ N, R * D = N := ⟨_, rfl⟩
  obtain ⟨N1, hN1⟩ : ∃ N, R * C = N := ⟨_, rfl⟩
  obtain ⟨N2, hN2⟩ : ∃ N, C * D = N := ⟨_, rfl⟩
  have b0 : N ≤ 25 := by
    have : R * D ≤ 5 * 5 := Nat.mul_le_mul r2 d2
    omega
  have b1 : N1 ≤ 25 := by
    have : R * C ≤ 5 * 5 := Nat.mul_le_mul r2 c2
    omega
  have b2 : N2 ≤ 25 := by
    have : C * D ≤ 5 * 5 := Nat.mul_le_mul c2 d2
    omega
  have p0 : 0 < N := by rw [← hN]; exact Nat.mul_pos r1 d1
  have p1 : 0 < N1 := by rw [← hN1]; exact Nat.mul_pos r1 c1
  have p2 : 0 < N2 := by rw [← hN2]; exact Nat.mul_pos c1 d1
  unfold MakesMx
  rw [tab_length]
  have HU := Lib.hid h
  have HV := Lib.hid h'
  have H1 := Lib.hid (Mx.ok_of r1 r2 c1 c2 hl a1)
  have H2 := Lib.hid (Mx.ok_of c1 c2 d1 d2 hl' a2)
  obtain ⟨_, A1, k1, rfl, hk1, hm1', hA1⟩ := h
  obtain ⟨_, A2, k2, rfl, hk2, hm2', hA2⟩ := h'
  rw [hN1] at hl
  rw [hN2] at hl'
  rw [hl] at hk1 hA1
  rw [hl'] at hk2 hA2
  obtain ⟨ba, oa, rfl, hba, hca⟩ := hA1 p1
  obtain ⟨bb, ob, rfl, hbb, hcb⟩ := hA2 p2
  have HA := Lib.hid hca
  have HB := Lib.hid hcb
  have HL1 := Lib.hid hl
  have HL2 := Lib.hid hl'
  have HN := Lib.hid hN
  have HN1 := Lib.hid hN1
  have HN2 := Lib.hid hN2
  have HX := Lib.hid a1
  have HY := Lib.hid a2
  have CE := fun w => C_emptyMatrix R D N w hN b0
  unfold MakesMx at CE
  rw [tab_length] at CE
  rw [HL1.out] at HU ⊢
  rw [HL2.out] at HV ⊢
  rw [HN.out]
  clear hA1 hA2 hca hcb hl hl' hN hN1 hN2 a1 a2
  obtain ⟨L, HL, S⟩ := st_start w0; have F : True := trivial
  go_enter Try.func158, Try.ntmps158
  go_upto_region 1 with (first | (refine wpList_box (o := { dst := some 2, op := _, type := _, pos := _, after := _, guard := _ }) rfl S _ _ rfl ?_; intro ga w L hM T; clear F S; (try rw [HL.out] at hM); clear HL; (try simp [Act.put, Act.eval, Value.cells, splice] at hM); have HL := Lib.hid hM; clear hM; have S := T; clear T; have F := factsAll HL S; (try simp only [factsOf, cellsFrom, and_true, true_and, Nat.reduceAdd] at F)) | (refine wpList_box (o := { dst := some 3, op := _, type := _, pos := _, after := _, guard := _ }) rfl S _ _ rfl ?_; intro gb w L hM T; clear F S; (try rw [HL.out] at hM); clear HL; (try simp [Act.put, Act.eval, Value.cells, splice] at hM); have HL := Lib.hid hM; clear hM; have S := T; clear T; have F := factsAll HL S; (try simp only [factsOf, cellsFrom, and_true, true_and, Nat.reduceAdd] at F)) | (refine wpList_alloc rfl S 55 _ rfl zMx ?_; intro gr w L hM T; clear F S; (try rw [HL.out] at hM); clear HL; (try simp [Act.put, Act.eval, Value.cells, splice] at hM); have HL := Lib.hid hM; clear hM; have S := T; clear T; have F := factsAll HL S; (try simp only [factsOf, cellsFrom, and_true, true_and, Nat.reduceAdd] at F)))
  go_upto_region 3 with (first | (go_at_call 62; refine (C_impl_MatrixValid _ _ _ _ _ _ (by first | exact HU.out.at_ S | exact HV.out.at_ S) (by first | exact H1.out | exact H2.out)).mono ?_; rintro e w ⟨rfl, hb⟩; replace S := S.grow hb; clear hb))
  go_upto_region 4 with (first | (refine wpList_alloc rfl S 55 _ rfl zMx ?_; intro g5 w L hM T; clear F S; (try rw [HL.out] at hM); clear HL; (try simp [Act.put, Act.eval, Value.cells, splice] at hM); have HL := Lib.hid hM; clear hM; have S := T; clear T; have F := factsAll HL S; (try simp only [factsOf, cellsFrom, and_true, true_and, Nat.reduceAdd] at F)) | (refine wpList_store_box rfl S _ _ _ rfl 0 _ _ _ _ (atOf HL rfl) rfl _ rfl (by kernel_rfl) rfl rfl ?_; intro w L hM T; clear F S; (try rw [HL.out] at hM); clear HL; (try simp [Act.put, Act.eval, Value.cells, splice] at hM); have HL := Lib.hid hM; clear hM; have S := T; clear T; have F := factsAll HL S; (try simp only [factsOf, cellsFrom, and_true, true_and, Nat.reduceAdd] at F)) | (go_at_call 126; refine (CE _).mono ?_; rintro e w ⟨u, rfl, T0⟩; obtain ⟨L, hM, T⟩ := st_name (S.call T0); clear T0; clear F S; (try rw [HL.out] at hM); clear HL; (try simp [Act.put, Act.eval, Value.cells, splice] at hM); have HL := Lib.hid hM; clear hM; have S := T; clear T; have F := factsAll HL S; (try simp only [factsOf, cellsFrom, and_true, true_and, Nat.reduceAdd] at F); obtain ⟨A', cap', rfl, hcap', hmax'⟩ := S.sliceOf (atOf HL (p := 0) rfl)))
  obtain ⟨gn, cn, ev, hcv, hmv⟩ := S.rowAt (p := 1) (atOf HL rfl) p0
  obtain ⟨rfl, rfl⟩ : A' = some ⟨gn, 0, none⟩ ∧ cap' = cn := by injection ev with e1 _ e3; exact ⟨e1, e3⟩
  clear ev CE
  go_wp2
  go_loopw [35] (fun i wr => ∃ (j : Nat) (L : List Ent), j ≤ R ∧ i = .int .i64 j ∧ Hid (L = [.box g5 55 [.int .i64 R, .int .i64 D, .slice (some ⟨gn, 0, none⟩) N cap'], .row 3 1 (.slice (some ⟨gn, 0, none⟩) N cap') N (ints (tab N fun q => if q < j * D then mulAt xs ys C D q else 0)), .box gr 55 [.int .i64 0, .int .i64 0, .slice none 0 0], .box gb 55 [.int .i64 C, .int .i64 D, .slice (some ⟨bb, ob, none⟩) N2 k2], .box ga 55 [.int .i64 R, .int .i64 C, .slice (some ⟨ba, oa, none⟩) N1 k1]]) ∧ St w0 wr L) (fun i _ => R - (intOf i).toNat)
  case atStart => exact ⟨0, L, Nat.zero_le _, rfl, Lib.hid (by rw [HL.out, Nat.zero_mul, fil_zero]), S⟩
  case round =>
    clear F HL S
    obtain ⟨j, L, hj, rfl, HL, S⟩ := hrel
    have F := factsAll HL S
    simp only [factsOf, cellsFrom, and_true, true_and, Nat.reduceAdd] at F
    by_cases hlt : j < R
    · obtain ⟨m1, hm1⟩ : ∃ m1, j * C = m1 := ⟨_, rfl⟩
      obtain ⟨m2, hm2⟩ : ∃ m2, j * D = m2 := ⟨_, rfl⟩
      have HM1 := Lib.hid hm1
      have HM2 := Lib.hid hm2
      have CR := fun w => C_rowOf R C j N1 k1 ba oa m1 w hlt r2 c1 c2 hm1 HN1.out hk1 hm1'
      rw [hm2] at HL
      clear hm1 hm2
      go_wp2_with (first | (go_at_call 161; refine (CR _).mono ?_; rintro e w ⟨rfl, hb⟩; replace S := S.grow hb; clear hb))
      clear CR
      go_loopw [43] (fun i wr => ∃ (c : Nat) (L : List Ent), c ≤ D ∧ i = .int .i64 c ∧ Hid (L = [.box g5 55 [.int .i64 R, .int .i64 D, .slice (some ⟨gn, 0, none⟩) N cap'], .row 3 1 (.slice (some ⟨gn, 0, none⟩) N cap') N (ints (tab N fun q => if q < m2 + c then mulAt xs ys C D q else 0)), .box gr 55 [.int .i64 0, .int .i64 0, .slice none 0 0], .box gb 55 [.int .i64 C, .int .i64 D, .slice (some ⟨bb, ob, none⟩) N2 k2], .box ga 55 [.int .i64 R, .int .i64 C, .slice (some ⟨ba, oa, none⟩) N1 k1]]) ∧ St w0 wr L) (fun i _ => D - (intOf i).toNat)
      case atStart => exact ⟨0, L, Nat.zero_le _, rfl, HL, S⟩
      case round =>
        clear F HL S
        obtain ⟨c, L, hc, rfl, HL, S⟩ := hrel
        have F := factsAll HL S
        simp only [factsOf, cellsFrom, and_true, true_and, Nat.reduceAdd] at F
        by_cases hlt2 : c < D
        · go_wp2
          go_loopw [48, 9] (fun i s wr => ∃ (k : Nat), k ≤ C ∧ i = .int .i64 k ∧ s = .int .i64 (dot xs ys C D j c k) ∧ St w0 wr L) (fun i _ _ => C - (intOf i).toNat)
          case atStart => exact ⟨0, Nat.zero_le _, rfl, rfl, S⟩
          case round =>
            clear S
            obtain ⟨k, hk, rfl, rfl, S⟩ := hrel
            by_cases hlt3 : k < C
            · obtain ⟨m3, hm3⟩ : ∃ m3, k * D = m3 := ⟨_, rfl⟩
              have q1 : m1 + k < N1 := by rw [← HM1.out, ← HN1.out]; exact cell_lt hlt hlt3
              have q2 : m3 + c < N2 := by rw [← hm3, ← HN2.out]; exact cell_lt hlt3 hlt2
              have x0 := HA.out (m1 + k) _ (ints_getD xs (m1 + k) (by rw [HL1.out]; exact q1))
              have y0 := HB.out (m3 + c) _ (ints_getD ys (m3 + c) (by rw [HL2.out]; exact q2))
              have bs := dot_bd HX.out HY.out C D j c k
              have bx := rv_bd (getD_rv HX.out (m1 + k))
              have byy := rv_bd (getD_rv HY.out (m3 + c))
              have e1 : dot xs ys C D j c (k + 1) = dot xs ys C D j c k + xs.getD (m1 + k) 0 * ys.getD (m3 + c) 0 := by rw [← HM1.out, ← hm3]; rfl
              generalize dot xs ys C D j c k = s at e1 bs
              generalize xs.getD (m1 + k) 0 = x at *
              generalize ys.getD (m3 + c) 0 = y at *
              have hp1 : 0 ≤ x * y := Int.mul_nonneg bx.1 byy.1
              have hp2 : x * y ≤ 16769025 := by
                have := Int.mul_le_mul (show x ≤ 4095 by omega) (show y ≤ 4095 by omega) byy.1 (by omega)
                omega
              have E1 := Lib.hid e1
              have HM3 := Lib.hid hm3
              rw [← Nat.add_assoc] at x0
              have c0 := (S.below.cell (p := ⟨ba, oa + m1 + k, none⟩) hba).trans x0
              clear e1 x0 hm3
              have hs2 : s ≤ 100000000 := by omega
              go_wp2_with (first | (go_at_call 162; refine (C_valueAt D N2 k2 bb ob k c m3 _ y _ (by omega) d2 HM3.out hlt2 q2 hk2 hm2' (Nat.lt_of_lt_of_le hbb S.below.size) ((S.below.cell (p := ⟨bb, ob + (m3 + c), none⟩) hbb).trans y0)).mono ?_; rintro e w ⟨rfl, hb⟩; replace S := S.grow hb; clear hb))
              go_roundw
              case rel => exact ⟨k + 1, by omega, by go_num, by rw [E1.out], S⟩
              case measure => simp [intOf]; omega
            · obtain rfl : k = C := by omega
              have q0 : m2 + c < N := by rw [← HM2.out, ← HN.out]; exact cell_lt hlt hlt2
              have hz : ro (dot xs ys k D j c k) = mulAt xs ys k D (m2 + c) := by rw [← HM2.out]; exact (mulAt_at xs ys hlt2).symm
              have ea := fil_set (mulAt xs ys k D) N (m2 + c)
              have w2 : IntKind.i64.wrap ((j : Int) * (D : Int)) = (m2 : Int) := wrap_nat (by rw [← HM2.out, Int.natCast_mul]) (by omega)
              have w3 : IntKind.i64.wrap ((m2 : Int) + (c : Int)) = ((m2 + c : Nat) : Int) := wrap_nat (by omega) (by omega)
              obtain ⟨p, hp⟩ : ∃ p, m2 + c = p := ⟨_, rfl⟩
              rw [hp] at q0 hz ea w3 HL
              have HP := Lib.hid hp
              clear hp
              generalize dot xs ys k D j c k = s at *
              generalize mulAt xs ys k D p = z at hz ea
              have HZ := Lib.hid hz
              have EA := Lib.hid ea
              clear hz ea
              go_upto_region 17 with fail
              have HL0 := HL; have F0 := F; refine wp_region_tree (S := fun w' => St w0 w' L) (.calm 0 (.calm 1 (.calm 2 (.calm 3 (.calm 4 (.calm 5 (.calm 6 (.calm 7 (.calm 8 (.act 9 (.calm 10 (.act 11 .fin .stop)) .stop)))))))))) (by kernel_rfl) (by kernel_rfl) (by kernel_rfl) (by intro c a d v w h; cases d <;> exact h) ?_; replace S := S.drew
              repeat (first | (first | (refine tree_calm (v := ?_) ?_ rfl (by decide +kernel) rfl ?_ ?_; rotate_left; (focus (first | exact S | (refine S.sub (subL HL0 HL ?_); (repeat (first | exact List.Sublist.refl _ | apply List.Sublist.cons)); done))); (focus (intro w' hS'; (try dsimp only at hS'); go_simp; try rfl)); (try simp only [Act.put, List.setIfInBounds_toArray, List.set_cons_zero, List.set_cons_succ])) | (refine tree_any (v := ?_) ?_ rfl rfl ?_ ?_; rotate_left; (focus (first | exact S | (refine S.sub (subL HL0 HL ?_); (repeat (first | exact List.Sublist.refl _ | apply List.Sublist.cons)); done))); (focus (intro w'; go_simp; try rfl)); (try simp only [Act.put, List.setIfInBounds_toArray, List.set_cons_zero, List.set_cons_succ]))) | (refine tree_skip ?_ rfl rfl ?_; (focus (first | exact S | (refine S.sub (subL HL0 HL ?_); (repeat (first | exact List.Sublist.refl _ | apply List.Sublist.cons)); done))); (try simp only [Act.put, List.setIfInBounds_toArray, List.set_cons_zero, List.set_cons_succ])) | (refine tree_act rfl rfl ?_ tree_stop; intro K hK; (refine wp_store_row S _ _ _ rfl 1 _ _ _ _ _ _ _ (atOf HL rfl) rfl _ rfl (by kernel_rfl) rfl (by omega) ?_; intro w L hM T; clear F S; (try rw [HL.out] at hM); clear HL; (try simp [Act.put, Act.eval, Value.cells, splice] at hM); have HL := Lib.hid hM; clear hM; have S := T; clear T; have F := factsAll HL S; (try simp only [factsOf, cellsFrom, and_true, true_and, Nat.reduceAdd] at F)); (refine hK.out _ _ ?_ ?_; (focus (first | exact fun _ => S | (intro _; refine S.sub (subL HL0 HL ?_); (repeat (first | exact List.Sublist.refl _ | apply List.Sublist.cons)); done) | (refine sink_no ?_; kernel_rfl))); clear hK K; (try simp only [Act.put, List.setIfInBounds_toArray, List.set_cons_zero, List.set_cons_succ]))) | (refine tree_act rfl rfl ?_ tree_stop; intro K hK; go_wp2_with (first | (go_at_call 127; refine (C_RingOf' _ _ _ (by exact HZ.out)).mono ?_; rintro e w' ⟨rfl, rfl⟩)); (refine hK.out _ _ ?_ ?_; (focus (first | exact fun _ => S | (intro _; refine S.sub (subL HL0 HL ?_); (repeat (first | exact List.Sublist.refl _ | apply List.Sublist.cons)); done) | (refine sink_no ?_; kernel_rfl))); clear hK K; (try simp only [Act.put, List.setIfInBounds_toArray, List.set_cons_zero, List.set_cons_succ]))))
              refine tree_fin ?_
              clear HL0 F0 w2 w3
              go_wp2
              go_roundw
              case rel =>
                rw [← ints_set, EA.out] at HL
                exact ⟨c + 1, L, by omega, by go_num, by rw [← Nat.add_assoc, HP.out]; exact HL, S⟩
              case measure => simp [intOf]; omega
        · obtain rfl : c = D := by omega
          go_wp2
          go_roundw
          case rel => exact ⟨j + 1, L, by omega, by go_num, by rw [Nat.succ_mul, HM2.out]; exact HL, S⟩
          case measure => simp [intOf]; omega
    · obtain rfl : j = R := by omega
      go_wp2_with (first | (refine wpList_store_box rfl S _ _ _ rfl 2 _ _ _ _ (atOf HL rfl) rfl _ rfl (by kernel_rfl) rfl rfl ?_; intro w L hM T; clear F S; (try rw [HL.out] at hM); clear HL; (try simp [Act.put, Act.eval, Value.cells, splice] at hM); have HL := Lib.hid hM; clear hM; have S := T; clear T; have F := factsAll HL S; (try simp only [factsOf, cellsFrom, and_true, true_and, Nat.reduceAdd] at F)))
      ((try simp only [Exit.inBlock, Exit.then]); refine ret1 rfl (resCell S HL 2 rfl rfl (by kernel_rfl)) rfl ?_)
      refine ⟨_, rfl, ?_⟩
      rw [HN.out, fil_full] at HL
      exact (by rw [HL.out] at S; exact S.sub (by repeat (first | exact .refl _ | exact List.nil_sublist _ | apply List.Sublist.cons_cons | apply List.Sublist.cons)))
end Go.Proofs.Ytdfpceobfficfaa
