/- SmK MulT NumB -/
import Derived.Test.YtjgfjfjboimgdaaGreatY22
namespace Go.Proofs.YtjgfjfjboimgdaaGreat
set_option linter.unusedSimpArgs false
set_option linter.unusedVariables false
set_option linter.unusedSectionVars false
open Go Go.RowKit
set_option maxHeartbeats 8000000
set_option maxRecDepth 20000
section
attribute [local irreducible] wpList Oper.wp Calls
theorem C_impl_SMix_bad (ws : List SMx) (x : SMx) (s : Int) (t u v : Value) (w0 : World) (hw : SeesSMs w0 t ws) (hu : Ints w0 u x.a.xs) (hv : Ints w0 v x.b.xs) (hok : mixOk ws x s = false) :
    Calls Tryz.prog 14 #[t, .agg #[.int .i64 (x).a.r, .int .i64 (x).a.c, u, .int .i64 (x).b.r, .int .i64 (x).b.c, v], .int .i64 s] w0 (MakesScl w0 ⟨SMx.zero, [], 0⟩) := by
  unfold MakesScl
  obtain ⟨b, hb⟩ : ∃ b, (decide (ws.length = 3) && likeMx ⟨x.a.r, x.a.c, x.a.xs⟩ ⟨x.b.r, x.b.c, x.b.xs⟩ && ws.all (mixFitS ⟨⟨x.a.r, x.a.c, x.a.xs⟩, ⟨x.b.r, x.b.c, x.b.xs⟩⟩)) = b := ⟨_, rfl⟩
  have CF := fun w hw hu hv => C_smixFits x.a.r x.a.c x.a.xs x.b.r x.b.c x.b.xs u v t ws b w hw hu hv hb
  have hok' : ((decide (ws.length = 3) && likeMx ⟨x.a.r, x.a.c, x.a.xs⟩ ⟨x.b.r, x.b.c, x.b.xs⟩ && ws.all (mixFitS ⟨⟨x.a.r, x.a.c, x.a.xs⟩, ⟨x.b.r, x.b.c, x.b.xs⟩⟩)) && seedOk s) = false := hok
  rw [hb] at hok'
  have CV := fun w => C_seedValid s w
  have HW := Lib.hid hw
  have HU := Lib.hid hu
  have HV := Lib.hid hv
  obtain ⟨A, cap, rfl, _, _, _⟩ := hw
  clear hok hu hv hb
  cases b with
  | false =>
    clear hok'
    obtain ⟨L, HL, S⟩ := st_start w0; have F : True := trivial
    go_enter Tryz.func14, Tryz.ntmps14
    go_upto_region 1 with (first | (refine qbx HL S ?_; clear F S HL; intro g w L HL S F) | (refine qal HL S zSMx ?_; clear F S HL; intro g w L HL S F))
    go_upto_region 2 with (first | refine qLb6 S ?_ | (go_at_call 51; refine qGr S (CF _ (HW.out.at_ S) (HU.out.at_ S) (HV.out.at_ S)) ?_; clear S; intro w S))
    go_wp2_with (first | (refine qst HL S 0 ?_; clear F S HL; intro w L HL S F))
    refine ret3 rfl (resCell S HL 0 rfl rfl (by kernel_rfl)) (show _ = _ from rfl) (show _ = _ from rfl) rfl ?_
    exact ⟨_, _, _, rfl, S.nilScl _⟩
  | true =>
    rw [Bool.true_and] at hok'
    rw [hok'] at CV
    clear hok'
    obtain ⟨L, HL, S⟩ := st_start w0; have F : True := trivial
    go_enter Tryz.func14, Tryz.ntmps14
    go_upto_region 1 with (first | (refine qbx HL S ?_; clear F S HL; intro g w L HL S F) | (refine qal HL S zSMx ?_; clear F S HL; intro g w L HL S F))
    go_upto_region 2 with (first | refine qLb6 S ?_ | (go_at_call 52; refine qPu (CV _) ?_) | (go_at_call 51; refine qGr S (CF _ (HW.out.at_ S) (HU.out.at_ S) (HV.out.at_ S)) ?_; clear S; intro w S))
    go_wp2_with (first | (refine qst HL S 0 ?_; clear F S HL; intro w L HL S F))
    refine ret3 rfl (resCell S HL 0 rfl rfl (by kernel_rfl)) (show _ = _ from rfl) (show _ = _ from rfl) rfl ?_
    exact ⟨_, _, _, rfl, S.nilScl _⟩
theorem C_impl_SharedMix (ws : List SMx) (x : SMx) (s : Int) (t u v : Value) (z : Scd) (w0 : World) (hw : SeesSMs w0 t ws) (hu : Ints w0 u x.a.xs) (hv : Ints w0 v x.b.xs) (hz : mixR ws x s = z) :
    Calls Tryz.prog 14 #[t, .agg #[.int .i64 (x).a.r, .int .i64 (x).a.c, u, .int .i64 (x).b.r, .int .i64 (x).b.c, v], .int .i64 s] w0 (MakesScl w0 z) := by
  subst hz
  cases hok : mixOk ws x s with
  | false => rw [mixR_not hok]; exact C_impl_SMix_bad ws x s t u v w0 hw hu hv hok
  | true =>
    obtain ⟨a, b, c, rfl, _, _, _, _, _, _, _, _, _, _, _, e⟩ := mixOk_parts hok
    rw [e]
    have hw' := hw
    obtain ⟨A, cap, rfl, _, _, _⟩ := hw
    exact C_impl_SMix_good a b c x s A cap u v w0 hw' hu hv hok
end
section
theorem C_l1Ring' (a q : Int) (w0 : World) (h : ro a = q) : Calls Tryz.prog 96 #[.int .i64 a] w0 fun e w' => e = .returned (.int .i64 q) ∧ w0 = w' := h ▸ C_spec_l1Ring a w0
theorem C_specValid' (r c : Int) (xs : List Int) (n : Nat) (u : Value) (w0 : World) (h : Sees w0 1 u n (ints xs)) (hn : xs.length = n) (hok : (Mx.mk r c xs).ok = true) : Calls Tryz.prog 95 #[.agg #[.int .i64 r, .int .i64 c, u]] w0 fun e w' => e = .returned (.bool true) ∧ Below w0.heap.size w0 w' :=
  C_spec_MatrixValid _ _ _ _ _ _ (by unfold Ints; rw [hn]; exact h) hok
theorem C_spec_Mul (R C D : Nat) (xs ys : List Int) (u v : Value) (w0 : World) (h : Ints w0 u xs) (h' : Ints w0 v ys) (r1 : 1 ≤ R) (r2 : R ≤ 5) (c1 : 1 ≤ C) (c2 : C ≤ 5) (d1 : 1 ≤ D) (d2 : D ≤ 5) (hl : xs.length = R * C) (hl' : ys.length = C * D) (a1 : xs.all rv = true) (a2 : ys.all rv = true) :
    Calls Tryz.prog 162 #[.agg #[.int .i64 R, .int .i64 C, u], .agg #[.int .i64 C, .int .i64 D, v]] w0 (MakesMx w0 R D (tab (R * D) (mulAt xs ys C D))) := by
  obtain ⟨N, hN⟩ : ∃ N, R * D = N := ⟨_, rfl⟩
  obtain ⟨N1, hN1⟩ : ∃ N, R * C = N := ⟨_, rfl⟩
  obtain ⟨N2, hN2⟩ : ∃ N, C * D = N := ⟨_, rfl⟩
  have b0 : N ≤ 25 := by
    have : R * D ≤ 5 * 5 := Nat.mul_le_mul r2 d2
    omega
  have b1 : N1 ≤ 25 := by
    have : R * C ≤ 5 * 5 := Nat.mul_le_mul r2 c2
    omega
  have b2 : N2 ≤ 25 := by
    have : C * D ≤ 5 * 5 := Nat.mul_le_mul c2 d2
    omega
  have p1 : 0 < N1 := by rw [← hN1]; exact Nat.mul_pos r1 c1
  have p2 : 0 < N2 := by rw [← hN2]; exact Nat.mul_pos c1 d1
  unfold MakesMx
  rw [tab_length]
  have HU := Lib.hid h
  have HV := Lib.hid h'
  have H1 := Lib.hid (Mx.ok_of r1 r2 c1 c2 hl a1)
  have H2 := Lib.hid (Mx.ok_of c1 c2 d1 d2 hl' a2)
  obtain ⟨_, A1, k1, rfl, hk1, hm1', _⟩ := h
  obtain ⟨_, A2, k2, rfl, hk2, hm2', _⟩ := h'
  rw [hN1] at hl
  rw [hN2] at hl'
  have HL1 := Lib.hid hl
  have HL2 := Lib.hid hl'
  have HN := Lib.hid hN
  have HN1 := Lib.hid hN1
  have HN2 := Lib.hid hN2
  have HX := Lib.hid a1
  have HY := Lib.hid a2
  have CO1 := fun w h => C_l1OwnMatrix R C xs (.slice A1 xs.length k1) w h (by omega)
  have CO2 := fun w h => C_l1OwnMatrix C D ys (.slice A2 ys.length k2) w h (by omega)
  unfold MakesMx at CO1 CO2
  rw [HL1.out] at HU CO1 hk1 ⊢
  rw [HL2.out] at HV CO2 hk2 ⊢
  rw [HN.out]
  clear hl hl' hN hN1 hN2 a1 a2
  obtain ⟨L, HL, S⟩ := st_start w0; have F : True := trivial
  go_enter Tryz.func162, Tryz.ntmps162
  go_upto_region 1 with (first | (refine qbd 2 HL S ?_; clear F S HL; intro ga w L HL S F) | (refine qbd 3 HL S ?_; clear F S HL; intro gb w L HL S F) | (refine qal HL S zMx ?_; clear F S HL; intro gr w L HL S F))
  go_upto_region 2 with (first | (refine qst HL S 2 ?_; clear F S HL; intro w L HL S F) | (refine qst HL S 3 ?_; clear F S HL; intro w L HL S F) | (go_at_call 88; refine (CO1 _ (HU.out.at_ S)).mono ?_; rintro e w ⟨u, rfl, T0⟩; have hX := qcl HL S T0; clear F S HL T0; obtain ⟨L, HL, S, F⟩ := hX; obtain ⟨A', cap', rfl, hcap', hmax'⟩ := qSl HL S 0))
  go_upto_region 3 with (first | (refine qst HL S 2 ?_; clear F S HL; intro w L HL S F) | (refine qst HL S 3 ?_; clear F S HL; intro w L HL S F) | (go_at_call 88; refine (CO2 _ (HV.out.at_ S)).mono ?_; rintro e w ⟨u, rfl, T0⟩; have hX := qcl HL S T0; clear F S HL T0; obtain ⟨L, HL, S, F⟩ := hX; obtain ⟨A', cap', rfl, hcap', hmax'⟩ := qSl HL S 0))
  obtain ⟨g2, q2, e2, hq2, hs2⟩ := S.rowAt (p := 0) (atOf HL rfl) p2
  obtain ⟨g1, q1, e1, hq1, hs1⟩ := S.rowAt (p := 1) (atOf HL rfl) p1
  rw [e1, e2] at HL ⊢
  clear e1 e2 F
  have F := factsAll HL S
  simp only [factsOf, cellsFrom, and_true, true_and, Nat.reduceAdd] at F
  go_upto_region 5 with (first | (go_at_call 95; refine qGr S (C_specValid' _ _ _ _ _ _ (Sees.row S qAt) (by first | exact HL1.out | exact HL2.out) (by first | exact H1.out | exact H2.out)) ?_; clear S; intro w S))
  go_upto_region 6 with (first | (refine qal HL S zMx ?_; clear F S HL; intro g5 w L HL S F) | (refine qst HL S 0 ?_; clear F S HL; intro w L HL S F))
  rw [HL.out] at S
  replace S := S.nilRow 3 1
  clear HL F CO1 CO2
  obtain ⟨L, hM, T⟩ := st_name S; clear S; have S := T; clear T; have HL := Lib.hid hM; clear hM; have F := qFc HL S
  go_wp2
  go_loopw [6] (fun i wr => ∃ (j : Nat) (E1 : Option Addr) (m : Nat) (L : List Ent), j ≤ R ∧ i = .int .i64 j ∧ Hid (L = [.row 3 1 (.slice E1 (j * D) m) (j * D) (ints (tab (j * D) (mulAt xs ys C D))), .box g5 30 [.int .i64 R, .int .i64 D, .slice E1 (j * D) m], .row 3 1 (.slice (some ⟨g2, 0, none⟩) N2 q2) N2 (ints ys), .row 3 1 (.slice (some ⟨g1, 0, none⟩) N1 q1) N1 (ints xs), .box gr 30 [.int .i64 0, .int .i64 0, .slice none 0 0], .box gb 30 [.int .i64 C, .int .i64 D, .slice (some ⟨g2, 0, none⟩) N2 q2], .box ga 30 [.int .i64 R, .int .i64 C, .slice (some ⟨g1, 0, none⟩) N1 q1]]) ∧ St w0 wr L) (fun i _ => R - (intOf i).toNat)
  case atStart => exact ⟨0, none, 0, L, Nat.zero_le _, rfl, Lib.hid (by rw [HL.out, Nat.zero_mul]; rfl), S⟩
  case round =>
    clear F HL S
    obtain ⟨j, E1, m, L, hj, rfl, HL, S⟩ := hrel
    have F := factsAll HL S
    simp only [factsOf, cellsFrom, and_true, true_and, Nat.reduceAdd] at F
    by_cases hlt : j < R
    · obtain ⟨m1, hm1⟩ : ∃ m1, j * C = m1 := ⟨_, rfl⟩
      obtain ⟨m2, hm2⟩ : ∃ m2, j * D = m2 := ⟨_, rfl⟩
      have HM1 := Lib.hid hm1
      have HM2 := Lib.hid hm2
      rw [hm2] at HL F
      clear hm1 hm2
      go_wp2
      go_loopw [7] (fun i wr => ∃ (c : Nat) (E1 : Option Addr) (m : Nat) (L : List Ent), c ≤ D ∧ i = .int .i64 c ∧ Hid (L = [.row 3 1 (.slice E1 (m2 + c) m) (m2 + c) (ints (tab (m2 + c) (mulAt xs ys C D))), .box g5 30 [.int .i64 R, .int .i64 D, .slice E1 (m2 + c) m], .row 3 1 (.slice (some ⟨g2, 0, none⟩) N2 q2) N2 (ints ys), .row 3 1 (.slice (some ⟨g1, 0, none⟩) N1 q1) N1 (ints xs), .box gr 30 [.int .i64 0, .int .i64 0, .slice none 0 0], .box gb 30 [.int .i64 C, .int .i64 D, .slice (some ⟨g2, 0, none⟩) N2 q2], .box ga 30 [.int .i64 R, .int .i64 C, .slice (some ⟨g1, 0, none⟩) N1 q1]]) ∧ St w0 wr L) (fun i _ => D - (intOf i).toNat)
      case atStart => exact ⟨0, E1, m, L, Nat.zero_le _, rfl, HL, S⟩
      case round =>
        clear F HL S
        obtain ⟨c, E1, m, L, hc, rfl, HL, S⟩ := hrel
        have F := factsAll HL S
        simp only [factsOf, cellsFrom, and_true, true_and, Nat.reduceAdd] at F
        by_cases hlt2 : c < D
        · go_wp2
          go_loopw [9, 8] (fun i s wr => ∃ (k : Nat), k ≤ C ∧ i = .int .i64 k ∧ s = .int .i64 (dot xs ys C D j c k) ∧ St w0 wr L) (fun i _ _ => C - (intOf i).toNat)
          case atStart => exact ⟨0, Nat.zero_le _, rfl, rfl, S⟩
          case round =>
            clear S
            obtain ⟨k, hk, rfl, rfl, S⟩ := hrel
            by_cases hlt3 : k < C
            · obtain ⟨m3, hm3⟩ : ∃ m3, k * D = m3 := ⟨_, rfl⟩
              have z1 : m1 + k < N1 := by rw [← HM1.out, ← HN1.out]; exact cell_lt hlt hlt3
              have z2 : m3 + c < N2 := by rw [← hm3, ← HN2.out]; exact cell_lt hlt3 hlt2
              have X0 := Lib.hid (ints_getD xs (m1 + k) (by rw [HL1.out]; exact z1))
              have Y0 := Lib.hid (ints_getD ys (m3 + c) (by rw [HL2.out]; exact z2))
              have bs := dot_bd HX.out HY.out C D j c k
              have bx := rv_bd (getD_rv HX.out (m1 + k))
              have byy := rv_bd (getD_rv HY.out (m3 + c))
              have e1 : dot xs ys C D j c (k + 1) = dot xs ys C D j c k + xs.getD (m1 + k) 0 * ys.getD (m3 + c) 0 := by rw [← HM1.out, ← hm3]; rfl
              have v1 : IntKind.i64.wrap ((j : Int) * (C : Int)) = (m1 : Int) := wrap_nat (by rw [← HM1.out, Int.natCast_mul]) (by omega)
              have v2 : IntKind.i64.wrap ((m1 : Int) + (k : Int)) = ((m1 + k : Nat) : Int) := wrap_nat (by omega) (by omega)
              have v3 : IntKind.i64.wrap ((k : Int) * (D : Int)) = (m3 : Int) := wrap_nat (by rw [← hm3, Int.natCast_mul]) (by omega)
              have v4 : IntKind.i64.wrap ((m3 : Int) + (c : Int)) = ((m3 + c : Nat) : Int) := wrap_nat (by omega) (by omega)
              generalize dot xs ys C D j c k = s at e1 bs ⊢
              generalize xs.getD (m1 + k) 0 = x at *
              generalize ys.getD (m3 + c) 0 = y at *
              obtain ⟨i1, hi1⟩ : ∃ i, m1 + k = i := ⟨_, rfl⟩
              obtain ⟨i2, hi2⟩ : ∃ i, m3 + c = i := ⟨_, rfl⟩
              rw [hi1] at v2 z1 X0
              rw [hi2] at v4 z2 Y0
              have hp1 : 0 ≤ x * y := Int.mul_nonneg bx.1 byy.1
              have hp2 : x * y ≤ 16769025 := by
                have := Int.mul_le_mul (show x ≤ 4095 by omega) (show y ≤ 4095 by omega) byy.1 (by omega)
                omega
              have hs2 : s ≤ 100000000 := by omega
              have v5 : IntKind.i64.wrap (x * y) = x * y := wrap_small (by omega)
              have v6 : IntKind.i64.wrap (s + x * y) = s + x * y := wrap_small (by omega)
              have E1' := Lib.hid e1
              clear e1 hm3 hi1 hi2 bs bx byy
              go_upto_region 16 with fail
              have d0 := fun w' (S' : St w0 w' L) => (S'.rowCell (p := 3) (atOf HL rfl) i1 (by omega)).trans X0.out
              have d1 := fun w' (S' : St w0 w' L) => (S'.rowCell (p := 2) (atOf HL rfl) i2 (by omega)).trans Y0.out
              have HL0 := HL; have F0 := F; refine wp_region_tree (S := fun w' => St w0 w' L) (qcs 0 24 .fin) (by kernel_rfl) (by kernel_rfl) (by kernel_rfl) (by intro c a d v w h; cases d <;> exact h) ?_; dsimp only [qcs, Nat.reduceAdd]; replace S := S.drew
              repeat (first | refine qCa ?_ | refine qAn ?_ | refine qSk ?_ | (refine tree_act rfl rfl ?_ tree_stop; intro K hK; go_wp2_with (first | fail); (refine qKo hK ?_; clear hK K)))
              refine tree_fin ?_
              clear HL0 F0 d0 d1 v1 v2 v3 v4 v5 v6
              go_wp2
              go_roundw
              case rel => exact ⟨k + 1, by omega, by go_num, by rw [E1'.out], S⟩
              case measure => simp [intOf]; omega
            · obtain rfl : k = C := by omega
              have hz : ro (dot xs ys k D j c k) = mulAt xs ys k D (m2 + c) := by rw [← HM2.out]; exact (mulAt_at xs ys hlt2).symm
              have ea := tab_succ (m2 + c) (mulAt xs ys k D)
              have hpN : m2 + c < N := by rw [← HM2.out, ← HN.out]; exact cell_lt hlt hlt2
              obtain ⟨p, hp⟩ : ∃ p, m2 + c = p := ⟨_, rfl⟩
              rw [hp] at hz ea HL F hpN
              have HP := Lib.hid hp
              clear hp
              generalize dot xs ys k D j c k = s at *
              generalize mulAt xs ys k D p = z at hz ea
              have HZ := Lib.hid hz
              have EA := Lib.hid ea
              clear hz ea
              go_upto_region 17 with fail
              have hT := congrArg List.tail HL.out; simp only [List.tail_cons] at hT; obtain ⟨L1, hL1⟩ : ∃ M, M = L.tail := ⟨_, rfl⟩; rw [← hL1] at hT; have HL0 := Lib.hid hT; have S1 := S.sub (List.tail_sublist L); rw [← hL1] at S1; have F0 := qFc HL0 S1; clear S1 hL1 hT; skip; refine wp_region_tree (S := fun w' => St w0 w' L1) (.calm 0 (.calm 1 (.calm 2 (.act 3 (.act 4 (.act 5 (.calm 6 (.act 7 .fin .stop)) .stop) .stop) .stop)))) (by kernel_rfl) (by kernel_rfl) (by kernel_rfl) (by intro c a d v w h; cases d <;> exact h) ?_; replace S := S.drew
              repeat (first | refine qCa ?_ | refine qAn ?_ | refine qSk ?_ | (refine tree_act rfl rfl ?_ tree_stop; intro K hK; (refine wp_lit1 S _ _ rfl 3 Tryz.underlying23 infoInt _ rfl ?_; clear F S; intro g w L hM S; replace HL := qNm HL hM; clear hM; have F := qFc HL S); (refine qKo hK ?_; clear hK K)) | (refine tree_act rfl rfl ?_ tree_stop; intro K hK; (refine wp_append_box S _ _ _ rfl 3 _ 1 8 Tryz.underlying23 infoInt rfl (by omega) 1 _ _ _ rfl (atOf HL rfl) (by omega) 0 _ _ _ _ _ rfl (atOf HL rfl) rfl rfl rfl rfl ?_; clear F S; intro u w L hM S; replace HL := qNm HL hM; clear hM; have F := qFc HL S; obtain ⟨A', cap', rfl, hcap', hmax'⟩ := qSl HL S 1); (refine qKo hK ?_; clear hK K)) | (refine tree_act rfl rfl ?_ tree_stop; intro K hK; (refine qsw HL S 2 ?_; clear F S HL; intro w L HL S F); (refine qKo hK ?_; clear hK K)) | (refine tree_act rfl rfl ?_ tree_stop; intro K hK; go_wp2_with (first | (go_at_call 96; refine qPu (C_l1Ring' _ _ _ (by exact HZ.out)) ?_)); (refine qKo hK ?_; clear hK K)))
              refine tree_fin ?_
              clear HL0 F0
              go_wp2
              go_roundw
              case rel =>
                have e1 : ints (tab p (mulAt xs ys k D)) ++ [.int .i64 z] = ints (tab (p + 1) (mulAt xs ys k D)) := by rw [EA.out, ints_append]; rfl
                rw [HL.out, e1] at S
                exact ⟨c + 1, _, _, _, by omega, by go_num, Lib.hid rfl, by rw [← Nat.add_assoc, HP.out]; exact S.sub (.cons _ (.refl _))⟩
              case measure => simp [intOf]; omega
        · obtain rfl : c = D := by omega
          go_wp2
          go_roundw
          case rel => exact ⟨j + 1, E1, m, L, by omega, by go_num, by rw [Nat.succ_mul, HM2.out]; exact HL, S⟩
          case measure => simp [intOf]; omega
    · obtain rfl : j = R := by omega
      rw [HN.out] at HL F
      go_wp2_with (first | (refine qst HL S 4 ?_; clear F S HL; intro w L HL S F))
      ((try simp only [Exit.inBlock, Exit.then]); refine ret1 rfl (resCell S HL 4 rfl rfl (by kernel_rfl)) rfl ?_)
      refine ⟨_, rfl, ?_⟩
      exact (by rw [HL.out] at S; exact S.sub (by repeat (first | exact .refl _ | exact List.nil_sublist _ | apply List.Sublist.cons_cons | apply List.Sublist.cons)))
end
section
set_option maxHeartbeats 2000000
theorem C_in15 (n lo hi : Int) (b : Bool) (w0 : World) (h : (decide (lo ≤ n) && decide (n ≤ hi)) = b) : Calls Tryz.prog 44 #[.int .i64 n, .int .i64 lo, .int .i64 hi] w0 fun e w' => e = .returned (.bool b) ∧ w0 = w' := h ▸ C_spec_l1In n lo hi w0
theorem C_spec_FunctionAt (k x z : Int) (w0 : World) (hx : rv x = true) (hk : k = 1 ∨ k = 2 ∨ k = 3 ∨ k = 4 ∨ k = 5) (hz : fnAt k x = z) : Calls Tryz.prog 128 #[.int .i64 k, .int .i64 x] w0 fun e w' => e = .returned (.int .i64 z) ∧ w0 = w' := by
  have hb := signed_bd hx
  obtain ⟨s, hs⟩ : ∃ s, signed x = s := ⟨_, rfl⟩
  rcases hk with rfl | rfl | rfl | rfl | rfl
  · simp only [fnAt, if_true] at hz
    rw [hs] at hb
    go_enter Tryz.func128, Tryz.ntmps128
    go_wp2_with (first | (go_at_call 136; refine qPu (C_spec_RingValid _ _) ?_) | (go_at_call 44; refine qPu (C_in15 _ _ _ true _ (by decide)) ?_) | (go_at_call 165; refine qPu (C_spec_SignedOf _ _ _ hx hs) ?_) | (go_at_call 166; refine qPu (C_spec_CutRing _ _ _ hx hz) ?_))
    go_ret
    exact ⟨rfl, rfl⟩
  · simp [fnAt] at hz
    rw [hs] at hb hz
    subst hz
    go_enter Tryz.func128, Tryz.ntmps128
    go_wp2_with (first | (go_at_call 136; refine qPu (C_spec_RingValid _ _) ?_) | (go_at_call 44; refine qPu (C_in15 _ _ _ true _ (by decide)) ?_) | (go_at_call 165; refine qPu (C_spec_SignedOf _ _ _ hx hs) ?_))
    all_goals
      go_ret
      refine ⟨?_, rfl⟩
      simp
      omega
  · simp [fnAt] at hz
    rw [hs] at hb hz
    by_cases h : s < 0
    · rw [if_pos h] at hz
      subst hz
      go_enter Tryz.func128, Tryz.ntmps128
      go_wp2_with (first | (go_at_call 136; refine qPu (C_spec_RingValid _ _) ?_) | (go_at_call 44; refine qPu (C_in15 _ _ _ true _ (by decide)) ?_) | (go_at_call 165; refine qPu (C_spec_SignedOf _ _ _ hx hs) ?_))
      go_ret
      exact ⟨rfl, rfl⟩
    · rw [if_neg h] at hz
      subst hz
      go_enter Tryz.func128, Tryz.ntmps128
      go_wp2_with (first | (go_at_call 136; refine qPu (C_spec_RingValid _ _) ?_) | (go_at_call 44; refine qPu (C_in15 _ _ _ true _ (by decide)) ?_) | (go_at_call 165; refine qPu (C_spec_SignedOf _ _ _ hx hs) ?_))
      go_ret
      exact ⟨rfl, rfl⟩
  · have hz' : growR x = z := hz
    clear hz
    obtain ⟨q, hq⟩ : ∃ q, s / 16 = q := ⟨_, rfl⟩
    unfold growR growE at hz'
    rw [hs] at hb hz'
    rw [hq] at hz'
    have key := grow_val hz'
    clear hz'
    rcases key with ⟨h, rfl⟩ | ⟨rfl, rfl⟩ | ⟨rfl, rfl⟩ | ⟨rfl, rfl⟩ | ⟨rfl, rfl⟩ | ⟨rfl, rfl⟩ | ⟨rfl, rfl⟩ | ⟨rfl, rfl⟩ | ⟨h, rfl⟩
    all_goals
      go_enter Tryz.func128, Tryz.ntmps128
      go_wp2_with (first | (go_at_call 136; refine qPu (C_spec_RingValid _ _) ?_) | (go_at_call 44; refine qPu (C_in15 _ _ _ true _ (by decide)) ?_) | (go_at_call 165; refine qPu (C_spec_SignedOf _ _ _ hx hs) ?_) | (go_at_call 167; refine qPu (C_l2Floor _ _ _ ⟨by omega, by omega⟩ hq) ?_))
      go_ret
      exact ⟨rfl, rfl⟩
  · simp [fnAt, backR] at hz
    rw [hs] at hb hz
    by_cases h : s ≤ 0
    · rw [if_pos h] at hz
      subst hz
      go_enter Tryz.func128, Tryz.ntmps128
      go_wp2_with (first | (go_at_call 136; refine qPu (C_spec_RingValid _ _) ?_) | (go_at_call 44; refine qPu (C_in15 _ _ _ true _ (by decide)) ?_) | (go_at_call 165; refine qPu (C_spec_SignedOf _ _ _ hx hs) ?_))
      go_ret
      exact ⟨rfl, rfl⟩
    · rw [if_neg h] at hz
      have e1 : (256 : Int).tdiv s = z := by rw [Int.tdiv_eq_ediv_of_nonneg (by omega)]; exact hz
      have hz1 : 0 ≤ z ∧ z ≤ 256 := by
        rw [← hz]
        exact ⟨Int.ediv_nonneg (by omega) (by omega), Int.ediv_le_self _ (by omega)⟩
      clear hz
      go_enter Tryz.func128, Tryz.ntmps128
      go_wp2_with (first | (go_at_call 136; refine qPu (C_spec_RingValid _ _) ?_) | (go_at_call 44; refine qPu (C_in15 _ _ _ true _ (by decide)) ?_) | (go_at_call 165; refine qPu (C_spec_SignedOf _ _ _ hx hs) ?_))
      go_ret
      exact ⟨by simp [e1], rfl⟩
end
end Go.Proofs.YtjgfjfjboimgdaaGreat
