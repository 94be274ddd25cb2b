/-
  Contracts: products of matrices (the reference's).
-/
import Derived.Test.YtdfpceobfficfaaMxP
import Derived.Test.YtdfpceobfficfaaMatT
namespace Go.Proofs.Ytdfpceobfficfaa
set_option linter.unusedSimpArgs false
set_option linter.unusedVariables false
set_option linter.unusedSectionVars false
open Go Go.RowKit
set_option maxHeartbeats 8000000
set_option maxRecDepth 20000
theorem C_l1Ring' (a q : Int) (w0 : World) (h : ro a = q) : Calls Try.prog 94 #[.int .i64 a] w0 fun e w' => e = .returned (.int .i64 q) ∧ w0 = w' := h ▸ C_spec_l1Ring a w0
theorem C_specValid' (r c : Int) (xs : List Int) (n : Nat) (u : Value) (w0 : World) (h : Sees w0 1 u n (ints xs)) (hn : xs.length = n) (hok : (Mx.mk r c xs).ok = true) : Calls Try.prog 67 #[.agg #[.int .i64 r, .int .i64 c, u]] w0 fun e w' => e = .returned (.bool true) ∧ Below w0.heap.size w0 w' :=
  C_spec_MatrixValid _ _ _ _ _ _ (by unfold Ints; rw [hn]; exact h) hok
theorem C_spec_Mul (R C D : Nat) (xs ys : List Int) (u v : Value) (w0 : World) (h : Ints w0 u xs) (h' : Ints w0 v ys) (r1 : 1 ≤ R) (r2 : R ≤ 5) (c1 : 1 ≤ C) (c2 : C ≤ 5) (d1 : 1 ≤ D) (d2 : D ≤ 5) (hl : xs.length = R * C) (hl' : ys.length = C * D) (a1 : xs.all rv = true) (a2 : ys.all rv = true) :
    Calls Try.prog 100 #[.agg #[.int .i64 R, .int .i64 C, u], .agg #[.int .i64 C, .int .i64 D, v]] w0 (MakesMx w0 R D (tab (R * D) (mulAt xs ys C D))) := by
  obtain ⟨N, hN⟩ : ∃ N, R * D = N := ⟨_, rfl⟩
  obtain ⟨N1, hN1⟩ : ∃ N, R * C = N := ⟨_, rfl⟩
  obtain ⟨N2, hN2⟩ : ∃ N, C * D = N := ⟨_, rfl⟩
  have b0 : N ≤ 25 := by
    have : R * D ≤ 5 * 5 := Nat.mul_le_mul r2 d2
    omega
  have b1 : N1 ≤ 25 := by
    have : R * C ≤ 5 * 5 := Nat.mul_le_mul r2 c2
    omega
  have b2 : N2 ≤ 25 := by
    have : C * D ≤ 5 * 5 := Nat.mul_le_mul c2 d2
    omega
  have p1 : 0 < N1 := by rw [← hN1]; exact Nat.mul_pos r1 c1
  have p2 : 0 < N2 := by rw [← hN2]; exact Nat.mul_pos c1 d1
  unfold MakesMx
  rw [tab_length]
  have HU := Lib.hid h
  have HV := Lib.hid h'
  have H1 := Lib.hid (Mx.ok_of r1 r2 c1 c2 hl a1)
  have H2 := Lib.hid (Mx.ok_of c1 c2 d1 d2 hl' a2)
  obtain ⟨_, A1, k1, rfl, hk1, hm1', _⟩ := h
  obtain ⟨_, A2, k2, rfl, hk2, hm2', _⟩ := h'
  rw [hN1] at hl
  rw [hN2] at hl'
  have HL1 := Lib.hid hl
  have HL2 := Lib.hid hl'
  have HN := Lib.hid hN
  have HN1 := Lib.hid hN1
  have HN2 := Lib.hid hN2
  have HX := Lib.hid a1
  have HY := Lib.hid a2
  have CO1 := fun w h => C_l1OwnMatrix R C xs (.slice A1 xs.length k1) w h (by omega)
  have CO2 := fun w h => C_l1OwnMatrix C D ys (.slice A2 ys.length k2) w h (by omega)
  unfold MakesMx at CO1 CO2
  rw [HL1.out] at HU CO1 hk1 ⊢
  rw [HL2.out] at HV CO2 hk2 ⊢
  rw [HN.out]
  clear hl hl' hN hN1 hN2 a1 a2
  obtain ⟨L, HL, S⟩ := st_start w0; have F : True := trivial
  go_enter Try.func100, Try.ntmps100
  go_upto_region 1 with (first | (refine wpList_box (o := { dst := some 2, op := _, type := _, pos := _, after := _, guard := _ }) rfl S _ _ rfl ?_; intro ga w L hM T; clear F S; (try rw [HL.out] at hM); clear HL; (try simp [Act.put, Act.eval, Value.cells, splice] at hM); have HL := Lib.hid hM; clear hM; have S := T; clear T; have F := factsAll HL S; (try simp only [factsOf, cellsFrom, and_true, true_and, Nat.reduceAdd] at F)) | (refine wpList_box (o := { dst := some 3, op := _, type := _, pos := _, after := _, guard := _ }) rfl S _ _ rfl ?_; intro gb w L hM T; clear F S; (try rw [HL.out] at hM); clear HL; (try simp [Act.put, Act.eval, Value.cells, splice] at hM); have HL := Lib.hid hM; clear hM; have S := T; clear T; have F := factsAll HL S; (try simp only [factsOf, cellsFrom, and_true, true_and, Nat.reduceAdd] at F)) | (refine wpList_alloc rfl S 55 _ rfl zMx ?_; intro gr w L hM T; clear F S; (try rw [HL.out] at hM); clear HL; (try simp [Act.put, Act.eval, Value.cells, splice] at hM); have HL := Lib.hid hM; clear hM; have S := T; clear T; have F := factsAll HL S; (try simp only [factsOf, cellsFrom, and_true, true_and, Nat.reduceAdd] at F)))
  go_upto_region 2 with (first | (refine wpList_store_box rfl S _ _ _ rfl 2 _ _ _ _ (atOf HL rfl) rfl _ rfl (by kernel_rfl) rfl rfl ?_; intro w L hM T; clear F S; (try rw [HL.out] at hM); clear HL; (try simp [Act.put, Act.eval, Value.cells, splice] at hM); have HL := Lib.hid hM; clear hM; have S := T; clear T; have F := factsAll HL S; (try simp only [factsOf, cellsFrom, and_true, true_and, Nat.reduceAdd] at F)) | (refine wpList_store_box rfl S _ _ _ rfl 3 _ _ _ _ (atOf HL rfl) rfl _ rfl (by kernel_rfl) rfl rfl ?_; intro w L hM T; clear F S; (try rw [HL.out] at hM); clear HL; (try simp [Act.put, Act.eval, Value.cells, splice] at hM); have HL := Lib.hid hM; clear hM; have S := T; clear T; have F := factsAll HL S; (try simp only [factsOf, cellsFrom, and_true, true_and, Nat.reduceAdd] at F)) | (go_at_call 65; refine (CO1 _ (HU.out.at_ S)).mono ?_; rintro e w ⟨u, rfl, T0⟩; obtain ⟨L, hM, T⟩ := st_name (S.call T0); clear T0; clear F S; (try rw [HL.out] at hM); clear HL; (try simp [Act.put, Act.eval, Value.cells, splice] at hM); have HL := Lib.hid hM; clear hM; have S := T; clear T; have F := factsAll HL S; (try simp only [factsOf, cellsFrom, and_true, true_and, Nat.reduceAdd] at F); obtain ⟨A', cap', rfl, hcap', hmax'⟩ := S.sliceOf (atOf HL (p := 0) rfl)))
  go_upto_region 3 with (first | (refine wpList_store_box rfl S _ _ _ rfl 2 _ _ _ _ (atOf HL rfl) rfl _ rfl (by kernel_rfl) rfl rfl ?_; intro w L hM T; clear F S; (try rw [HL.out] at hM); clear HL; (try simp [Act.put, Act.eval, Value.cells, splice] at hM); have HL := Lib.hid hM; clear hM; have S := T; clear T; have F := factsAll HL S; (try simp only [factsOf, cellsFrom, and_true, true_and, Nat.reduceAdd] at F)) | (refine wpList_store_box rfl S _ _ _ rfl 3 _ _ _ _ (atOf HL rfl) rfl _ rfl (by kernel_rfl) rfl rfl ?_; intro w L hM T; clear F S; (try rw [HL.out] at hM); clear HL; (try simp [Act.put, Act.eval, Value.cells, splice] at hM); have HL := Lib.hid hM; clear hM; have S := T; clear T; have F := factsAll HL S; (try simp only [factsOf, cellsFrom, and_true, true_and, Nat.reduceAdd] at F)) | (go_at_call 65; refine (CO2 _ (HV.out.at_ S)).mono ?_; rintro e w ⟨u, rfl, T0⟩; obtain ⟨L, hM, T⟩ := st_name (S.call T0); clear T0; clear F S; (try rw [HL.out] at hM); clear HL; (try simp [Act.put, Act.eval, Value.cells, splice] at hM); have HL := Lib.hid hM; clear hM; have S := T; clear T; have F := factsAll HL S; (try simp only [factsOf, cellsFrom, and_true, true_and, Nat.reduceAdd] at F); obtain ⟨A', cap', rfl, hcap', hmax'⟩ := S.sliceOf (atOf HL (p := 0) rfl)))
  obtain ⟨g2, q2, e2, hq2, hs2⟩ := S.rowAt (p := 0) (atOf HL rfl) p2
  obtain ⟨g1, q1, e1, hq1, hs1⟩ := S.rowAt (p := 1) (atOf HL rfl) p1
  rw [e1, e2] at HL ⊢
  clear e1 e2 F
  have F := factsAll HL S
  simp only [factsOf, cellsFrom, and_true, true_and, Nat.reduceAdd] at F
  go_upto_region 5 with (first | (go_at_call 67; refine (C_specValid' _ _ _ _ _ _ (Sees.row S (by first | exact atOf HL (p := 0) rfl | exact atOf HL (p := 1) rfl | exact atOf HL (p := 2) rfl | exact atOf HL (p := 3) rfl | exact atOf HL (p := 4) rfl | exact atOf HL (p := 5) rfl | exact atOf HL (p := 6) rfl | exact atOf HL (p := 7) rfl | exact atOf HL (p := 8) rfl | exact atOf HL (p := 9) rfl | exact atOf HL (p := 10) rfl | exact atOf HL (p := 11) rfl | exact atOf HL (p := 12) rfl | exact atOf HL (p := 13) rfl | exact atOf HL (p := 14) rfl | exact atOf HL (p := 15) rfl | exact atOf HL (p := 16) rfl | exact atOf HL (p := 17) rfl | exact atOf HL (p := 18) rfl | exact atOf HL (p := 19) rfl | exact atOf HL (p := 20) rfl | exact atOf HL (p := 21) rfl | exact atOf HL (p := 22) rfl | exact atOf HL (p := 23) rfl | exact atOf HL (p := 24) rfl | exact atOf HL (p := 25) rfl | exact atOf HL (p := 26) rfl | exact atOf HL (p := 27) rfl | exact atOf HL (p := 28) rfl | exact atOf HL (p := 29) rfl | exact atOf HL (p := 30) rfl | exact atOf HL (p := 31) rfl | exact atOf HL (p := 32) rfl | exact atOf HL (p := 33) rfl | exact atOf HL (p := 34) rfl | exact atOf HL (p := 35) rfl | exact atOf HL (p := 36) rfl | exact atOf HL (p := 37) rfl | exact atOf HL (p := 38) rfl | exact atOf HL (p := 39) rfl)) (by first | exact HL1.out | exact HL2.out) (by first | exact H1.out | exact H2.out)).mono ?_; rintro e w ⟨rfl, hb⟩; replace S := S.grow hb; clear hb))
  go_upto_region 6 with (first | (refine wpList_alloc rfl S 55 _ rfl zMx ?_; intro g5 w L hM T; clear F S; (try rw [HL.out] at hM); clear HL; (try simp [Act.put, Act.eval, Value.cells, splice] at hM); have HL := Lib.hid hM; clear hM; have S := T; clear T; have F := factsAll HL S; (try simp only [factsOf, cellsFrom, and_true, true_and, Nat.reduceAdd] at F)) | (refine wpList_store_box rfl S _ _ _ rfl 0 _ _ _ _ (atOf HL rfl) rfl _ rfl (by kernel_rfl) rfl rfl ?_; intro w L hM T; clear F S; (try rw [HL.out] at hM); clear HL; (try simp [Act.put, Act.eval, Value.cells, splice] at hM); have HL := Lib.hid hM; clear hM; have S := T; clear T; have F := factsAll HL S; (try simp only [factsOf, cellsFrom, and_true, true_and, Nat.reduceAdd] at F)))
  rw [HL.out] at S
  replace S := S.nilRow 3 1
  clear HL F CO1 CO2
  obtain ⟨L, hM, T⟩ := st_name S; clear S; have S := T; clear T; have HL := Lib.hid hM; clear hM; have F := factsAll HL S; (try simp only [factsOf, cellsFrom, and_true, true_and, Nat.reduceAdd] at F)
  go_wp2
  go_loopw [6] (fun i wr => ∃ (j : Nat) (E1 : Option Addr) (m : Nat) (L : List Ent), j ≤ R ∧ i = .int .i64 j ∧ Hid (L = [.row 3 1 (.slice E1 (j * D) m) (j * D) (ints (tab (j * D) (mulAt xs ys C D))), .box g5 55 [.int .i64 R, .int .i64 D, .slice E1 (j * D) m], .row 3 1 (.slice (some ⟨g2, 0, none⟩) N2 q2) N2 (ints ys), .row 3 1 (.slice (some ⟨g1, 0, none⟩) N1 q1) N1 (ints xs), .box gr 55 [.int .i64 0, .int .i64 0, .slice none 0 0], .box gb 55 [.int .i64 C, .int .i64 D, .slice (some ⟨g2, 0, none⟩) N2 q2], .box ga 55 [.int .i64 R, .int .i64 C, .slice (some ⟨g1, 0, none⟩) N1 q1]]) ∧ St w0 wr L) (fun i _ => R - (intOf i).toNat)
  case atStart => exact ⟨0, none, 0, L, Nat.zero_le _, rfl, Lib.hid (by rw [HL.out, Nat.zero_mul]; rfl), S⟩
  case round =>
    clear F HL S
    obtain ⟨j, E1, m, L, hj, rfl, HL, S⟩ := hrel
    have F := factsAll HL S
    simp only [factsOf, cellsFrom, and_true, true_and, Nat.reduceAdd] at F
    by_cases hlt : j < R
    · obtain ⟨m1, hm1⟩ : ∃ m1, j * C = m1 := ⟨_, rfl⟩
      obtain ⟨m2, hm2⟩ : ∃ m2, j * D = m2 := ⟨_, rfl⟩
      have HM1 := Lib.hid hm1
      have HM2 := Lib.hid hm2
      rw [hm2] at HL F
      clear hm1 hm2
      go_wp2
      go_loopw [7] (fun i wr => ∃ (c : Nat) (E1 : Option Addr) (m : Nat) (L : List Ent), c ≤ D ∧ i = .int .i64 c ∧ Hid (L = [.row 3 1 (.slice E1 (m2 + c) m) (m2 + c) (ints (tab (m2 + c) (mulAt xs ys C D))), .box g5 55 [.int .i64 R, .int .i64 D, .slice E1 (m2 + c) m], .row 3 1 (.slice (some ⟨g2, 0, none⟩) N2 q2) N2 (ints ys), .row 3 1 (.slice (some ⟨g1, 0, none⟩) N1 q1) N1 (ints xs), .box gr 55 [.int .i64 0, .int .i64 0, .slice none 0 0], .box gb 55 [.int .i64 C, .int .i64 D, .slice (some ⟨g2, 0, none⟩) N2 q2], .box ga 55 [.int .i64 R, .int .i64 C, .slice (some ⟨g1, 0, none⟩) N1 q1]]) ∧ St w0 wr L) (fun i _ => D - (intOf i).toNat)
      case atStart => exact ⟨0, E1, m, L, Nat.zero_le _, rfl, HL, S⟩
      case round =>
        clear F HL S
        obtain ⟨c, E1, m, L, hc, rfl, HL, S⟩ := hrel
        have F := factsAll HL S
        simp only [factsOf, cellsFrom, and_true, true_and, Nat.reduceAdd] at F
        by_cases hlt2 : c < D
        · go_wp2
          go_loopw [9, 8] (fun i s wr => ∃ (k : Nat), k ≤ C ∧ i = .int .i64 k ∧ s = .int .i64 (dot xs ys C D j c k) ∧ St w0 wr L) (fun i _ _ => C - (intOf i).toNat)
          case atStart => exact ⟨0, Nat.zero_le _, rfl, rfl, S⟩
          case round =>
            clear S
            obtain ⟨k, hk, rfl, rfl, S⟩ := hrel
            by_cases hlt3 : k < C
            · obtain ⟨m3, hm3⟩ : ∃ m3, k * D = m3 := ⟨_, rfl⟩
              have z1 : m1 + k < N1 := by rw [← HM1.out, ← HN1.out]; exact cell_lt hlt hlt3
              have z2 : m3 + c < N2 := by rw [← hm3, ← HN2.out]; exact cell_lt hlt3 hlt2
              have X0 := Lib.hid (ints_getD xs (m1 + k) (by rw [HL1.out]; exact z1))
              have Y0 := Lib.hid (ints_getD ys (m3 + c) (by rw [HL2.out]; exact z2))
              have bs := dot_bd HX.out HY.out C D j c k
              have bx := rv_bd (getD_rv HX.out (m1 + k))
              have byy := rv_bd (getD_rv HY.out (m3 + c))
              have e1 : dot xs ys C D j c (k + 1) = dot xs ys C D j c k + xs.getD (m1 + k) 0 * ys.getD (m3 + c) 0 := by rw [← HM1.out, ← hm3]; rfl
              have v1 : IntKind.i64.wrap ((j : Int) * (C : Int)) = (m1 : Int) := wrap_nat (by rw [← HM1.out, Int.natCast_mul]) (by omega)
              have v2 : IntKind.i64.wrap ((m1 : Int) + (k : Int)) = ((m1 + k : Nat) : Int) := wrap_nat (by omega) (by omega)
              have v3 : IntKind.i64.wrap ((k : Int) * (D : Int)) = (m3 : Int) := wrap_nat (by rw [← hm3, Int.natCast_mul]) (by omega)
              have v4 : IntKind.i64.wrap ((m3 : Int) + (c : Int)) = ((m3 + c : Nat) : Int) := wrap_nat (by omega) (by omega)
              generalize dot xs ys C D j c k = s at e1 bs ⊢
              generalize xs.getD (m1 + k) 0 = x at *
              generalize ys.getD (m3 + c) 0 = y at *
              obtain ⟨i1, hi1⟩ : ∃ i, m1 + k = i := ⟨_, rfl⟩
              obtain ⟨i2, hi2⟩ : ∃ i, m3 + c = i := ⟨_, rfl⟩
              rw [hi1] at v2 z1 X0
              rw [hi2] at v4 z2 Y0
              have hp1 : 0 ≤ x * y := Int.mul_nonneg bx.1 byy.1
              have hp2 : x * y ≤ 16769025 := by
                have := Int.mul_le_mul (show x ≤ 4095 by omega) (show y ≤ 4095 by omega) byy.1 (by omega)
                omega
              have hs2 : s ≤ 100000000 := by omega
              have v5 : IntKind.i64.wrap (x * y) = x * y := wrap_small (by omega)
              have v6 : IntKind.i64.wrap (s + x * y) = s + x * y := wrap_small (by omega)
              have E1' := Lib.hid e1
              clear e1 hm3 hi1 hi2 bs bx byy
              go_upto_region 16 with fail
              have d0 := fun w' (S' : St w0 w' L) => (S'.rowCell (p := 3) (atOf HL rfl) i1 (by omega)).trans X0.out
              have d1 := fun w' (S' : St w0 w' L) => (S'.rowCell (p := 2) (atOf HL rfl) i2 (by omega)).trans Y0.out
              have HL0 := HL; have F0 := F; refine wp_region_tree (S := fun w' => St w0 w' L) (.calm 0 (.calm 1 (.calm 2 (.calm 3 (.calm 4 (.calm 5 (.calm 6 (.calm 7 (.calm 8 (.calm 9 (.calm 10 (.calm 11 (.calm 12 (.calm 13 (.calm 14 (.calm 15 (.calm 16 (.calm 17 (.calm 18 (.calm 19 (.calm 20 (.calm 21 (.calm 22 (.calm 23 .fin)))))))))))))))))))))))) (by kernel_rfl) (by kernel_rfl) (by kernel_rfl) (by intro c a d v w h; cases d <;> exact h) ?_; replace S := S.drew
              repeat (first | (first | (refine tree_calm (v := ?_) ?_ rfl (by decide +kernel) rfl ?_ ?_; rotate_left; (focus (first | exact S | (refine S.sub (subL HL0 HL ?_); (repeat (first | exact List.Sublist.refl _ | apply List.Sublist.cons)); done))); (focus (intro w' hS'; (try dsimp only at hS'); go_simp; try rfl)); (try simp only [Act.put, List.setIfInBounds_toArray, List.set_cons_zero, List.set_cons_succ])) | (refine tree_any (v := ?_) ?_ rfl rfl ?_ ?_; rotate_left; (focus (first | exact S | (refine S.sub (subL HL0 HL ?_); (repeat (first | exact List.Sublist.refl _ | apply List.Sublist.cons)); done))); (focus (intro w'; go_simp; try rfl)); (try simp only [Act.put, List.setIfInBounds_toArray, List.set_cons_zero, List.set_cons_succ]))) | (refine tree_skip ?_ rfl rfl ?_; (focus (first | exact S | (refine S.sub (subL HL0 HL ?_); (repeat (first | exact List.Sublist.refl _ | apply List.Sublist.cons)); done))); (try simp only [Act.put, List.setIfInBounds_toArray, List.set_cons_zero, List.set_cons_succ])) | (refine tree_act rfl rfl ?_ tree_stop; intro K hK; go_wp2_with (first | fail); (refine hK.out _ _ ?_ ?_; (focus (first | exact fun _ => S | (intro _; refine S.sub (subL HL0 HL ?_); (repeat (first | exact List.Sublist.refl _ | apply List.Sublist.cons)); done) | (refine sink_no ?_; kernel_rfl))); clear hK K; (try simp only [Act.put, List.setIfInBounds_toArray, List.set_cons_zero, List.set_cons_succ]))))
              refine tree_fin ?_
              clear HL0 F0 d0 d1 v1 v2 v3 v4 v5 v6
              go_wp2
              go_roundw
              case rel => exact ⟨k + 1, by omega, by go_num, by rw [E1'.out], S⟩
              case measure => simp [intOf]; omega
            · obtain rfl : k = C := by omega
              have hz : ro (dot xs ys k D j c k) = mulAt xs ys k D (m2 + c) := by rw [← HM2.out]; exact (mulAt_at xs ys hlt2).symm
              have ea := tab_succ (m2 + c) (mulAt xs ys k D)
              have hpN : m2 + c < N := by rw [← HM2.out, ← HN.out]; exact cell_lt hlt hlt2
              obtain ⟨p, hp⟩ : ∃ p, m2 + c = p := ⟨_, rfl⟩
              rw [hp] at hz ea HL F hpN
              have HP := Lib.hid hp
              clear hp
              generalize dot xs ys k D j c k = s at *
              generalize mulAt xs ys k D p = z at hz ea
              have HZ := Lib.hid hz
              have EA := Lib.hid ea
              clear hz ea
              go_upto_region 17 with fail
              have hT := congrArg List.tail HL.out; simp only [List.tail_cons] at hT; obtain ⟨L1, hL1⟩ : ∃ M, M = L.tail := ⟨_, rfl⟩; rw [← hL1] at hT; have HL0 := Lib.hid hT; have S1 := S.sub (List.tail_sublist L); rw [← hL1] at S1; have F0 := factsAll HL0 S1; (try simp only [factsOf, cellsFrom, and_true, true_and, Nat.reduceAdd] at F0); clear S1 hL1 hT; skip; refine wp_region_tree (S := fun w' => St w0 w' L1) (.calm 0 (.calm 1 (.calm 2 (.act 3 (.act 4 (.act 5 (.calm 6 (.act 7 .fin .stop)) .stop) .stop) .stop)))) (by kernel_rfl) (by kernel_rfl) (by kernel_rfl) (by intro c a d v w h; cases d <;> exact h) ?_; replace S := S.drew
              repeat (first | (first | (refine tree_calm (v := ?_) ?_ rfl (by decide +kernel) rfl ?_ ?_; rotate_left; (focus (first | exact S | (refine S.sub (subL HL0 HL ?_); (repeat (first | exact List.Sublist.refl _ | apply List.Sublist.cons)); done))); (focus (intro w' hS'; (try dsimp only at hS'); go_simp; try rfl)); (try simp only [Act.put, List.setIfInBounds_toArray, List.set_cons_zero, List.set_cons_succ])) | (refine tree_any (v := ?_) ?_ rfl rfl ?_ ?_; rotate_left; (focus (first | exact S | (refine S.sub (subL HL0 HL ?_); (repeat (first | exact List.Sublist.refl _ | apply List.Sublist.cons)); done))); (focus (intro w'; go_simp; try rfl)); (try simp only [Act.put, List.setIfInBounds_toArray, List.set_cons_zero, List.set_cons_succ]))) | (refine tree_skip ?_ rfl rfl ?_; (focus (first | exact S | (refine S.sub (subL HL0 HL ?_); (repeat (first | exact List.Sublist.refl _ | apply List.Sublist.cons)); done))); (try simp only [Act.put, List.setIfInBounds_toArray, List.set_cons_zero, List.set_cons_succ])) | (refine tree_act rfl rfl ?_ tree_stop; intro K hK; (refine wp_lit1 S _ _ rfl 3 Try.underlying53 infoInt _ rfl ?_; intro g w L hM T; clear F S; (try rw [HL.out] at hM); clear HL; (try simp [Act.put, Act.eval, Value.cells, splice] at hM); have HL := Lib.hid hM; clear hM; have S := T; clear T; have F := factsAll HL S; (try simp only [factsOf, cellsFrom, and_true, true_and, Nat.reduceAdd] at F)); (refine hK.out _ _ ?_ ?_; (focus (first | exact fun _ => S | (intro _; refine S.sub (subL HL0 HL ?_); (repeat (first | exact List.Sublist.refl _ | apply List.Sublist.cons)); done) | (refine sink_no ?_; kernel_rfl))); clear hK K; (try simp only [Act.put, List.setIfInBounds_toArray, List.set_cons_zero, List.set_cons_succ]))) | (refine tree_act rfl rfl ?_ tree_stop; intro K hK; (refine wp_append_box S _ _ _ rfl 3 _ 1 8 Try.underlying53 infoInt rfl (by omega) 1 _ _ _ rfl (atOf HL rfl) (by omega) 0 _ _ _ _ _ rfl (atOf HL rfl) rfl rfl rfl rfl ?_; intro u w L hM T; clear F S; (try rw [HL.out] at hM); clear HL; (try simp [Act.put, Act.eval, Value.cells, splice] at hM); have HL := Lib.hid hM; clear hM; have S := T; clear T; have F := factsAll HL S; (try simp only [factsOf, cellsFrom, and_true, true_and, Nat.reduceAdd] at F); obtain ⟨A', cap', rfl, hcap', hmax'⟩ := S.sliceOf (atOf HL (p := 1) rfl)); (refine hK.out _ _ ?_ ?_; (focus (first | exact fun _ => S | (intro _; refine S.sub (subL HL0 HL ?_); (repeat (first | exact List.Sublist.refl _ | apply List.Sublist.cons)); done) | (refine sink_no ?_; kernel_rfl))); clear hK K; (try simp only [Act.put, List.setIfInBounds_toArray, List.set_cons_zero, List.set_cons_succ]))) | (refine tree_act rfl rfl ?_ tree_stop; intro K hK; (refine wp_store_box S _ _ _ rfl 2 _ _ _ _ (atOf HL rfl) rfl _ rfl (by kernel_rfl) rfl rfl ?_; intro w L hM T; clear F S; (try rw [HL.out] at hM); clear HL; (try simp [Act.put, Act.eval, Value.cells, splice] at hM); have HL := Lib.hid hM; clear hM; have S := T; clear T; have F := factsAll HL S; (try simp only [factsOf, cellsFrom, and_true, true_and, Nat.reduceAdd] at F)); (refine hK.out _ _ ?_ ?_; (focus (first | exact fun _ => S | (intro _; refine S.sub (subL HL0 HL ?_); (repeat (first | exact List.Sublist.refl _ | apply List.Sublist.cons)); done) | (refine sink_no ?_; kernel_rfl))); clear hK K; (try simp only [Act.put, List.setIfInBounds_toArray, List.set_cons_zero, List.set_cons_succ]))) | (refine tree_act rfl rfl ?_ tree_stop; intro K hK; go_wp2_with (first | (go_at_call 94; refine (C_l1Ring' _ _ _ (by exact HZ.out)).mono ?_; rintro e w' ⟨rfl, rfl⟩)); (refine hK.out _ _ ?_ ?_; (focus (first | exact fun _ => S | (intro _; refine S.sub (subL HL0 HL ?_); (repeat (first | exact List.Sublist.refl _ | apply List.Sublist.cons)); done) | (refine sink_no ?_; kernel_rfl))); clear hK K; (try simp only [Act.put, List.setIfInBounds_toArray, List.set_cons_zero, List.set_cons_succ]))))
              refine tree_fin ?_
              clear HL0 F0
              go_wp2
              go_roundw
              case rel =>
                have e1 : ints (tab p (mulAt xs ys k D)) ++ [.int .i64 z] = ints (tab (p + 1) (mulAt xs ys k D)) := by rw [EA.out, ints_append]; rfl
                rw [HL.out, e1] at S
                exact ⟨c + 1, _, _, _, by omega, by go_num, Lib.hid rfl, by rw [← Nat.add_assoc, HP.out]; exact S.sub (.cons _ (.refl _))⟩
              case measure => simp [intOf]; omega
        · obtain rfl : c = D := by omega
          go_wp2
          go_roundw
          case rel => exact ⟨j + 1, E1, m, L, by omega, by go_num, by rw [Nat.succ_mul, HM2.out]; exact HL, S⟩
          case measure => simp [intOf]; omega
    · obtain rfl : j = R := by omega
      rw [HN.out] at HL F
      go_wp2_with (first | (refine wpList_store_box rfl S _ _ _ rfl 4 _ _ _ _ (atOf HL rfl) rfl _ rfl (by kernel_rfl) rfl rfl ?_; intro w L hM T; clear F S; (try rw [HL.out] at hM); clear HL; (try simp [Act.put, Act.eval, Value.cells, splice] at hM); have HL := Lib.hid hM; clear hM; have S := T; clear T; have F := factsAll HL S; (try simp only [factsOf, cellsFrom, and_true, true_and, Nat.reduceAdd] at F)))
      ((try simp only [Exit.inBlock, Exit.then]); refine ret1 rfl (resCell S HL 4 rfl rfl (by kernel_rfl)) rfl ?_)
      refine ⟨_, rfl, ?_⟩
      exact (by rw [HL.out] at S; exact S.sub (by repeat (first | exact .refl _ | exact List.nil_sublist _ | apply List.Sublist.cons_cons | apply List.Sublist.cons)))
end Go.Proofs.Ytdfpceobfficfaa
