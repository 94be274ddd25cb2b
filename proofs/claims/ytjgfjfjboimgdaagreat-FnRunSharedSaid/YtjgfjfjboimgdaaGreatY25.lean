/- MtT -/
import Derived.Test.YtjgfjfjboimgdaaGreatY24
namespace Go.Proofs.YtjgfjfjboimgdaaGreat
set_option linter.unusedSimpArgs false
set_option linter.unusedVariables false
set_option linter.unusedSectionVars false
open Go Go.RowKit
set_option maxHeartbeats 8000000
set_option maxRecDepth 20000
section
attribute [local irreducible] wpList Oper.wp Calls
theorem C_l8Same (r c : Int) (xs : List Int) (u v : Value) (w0 : World) (hu : Ints w0 u xs) (hv : Ints w0 v xs) :
    Calls Tryz.prog 189 #[.agg #[.int .i64 r, .int .i64 c, u], .agg #[.int .i64 r, .int .i64 c, v]] w0 fun e w' => e = .returned (.bool true) ∧ Below w0.heap.size w0 w' := by
  obtain ⟨_, A, cap, rfl, hcap, hmax, hA⟩ := hu
  obtain ⟨_, B, cap', rfl, hcap', hmax', hB⟩ := hv
  obtain ⟨n, hx⟩ : ∃ n, xs.length = n := ⟨_, rfl⟩
  rw [hx] at hcap hcap' hA hB ⊢
  have HX := Lib.hid hx
  have HA := Lib.hid hA
  have HB := Lib.hid hB
  clear hA hB hx
  unfold maxLen at hmax hmax'
  obtain ⟨L, HL, S⟩ := st_start w0; have F : True := trivial
  go_enter Tryz.func189, Tryz.ntmps189
  go_upto_region 3 with (first | (refine qbd 2 HL S ?_; clear F S HL; intro g2 w L HL S F) | (refine qbd 3 HL S ?_; clear F S HL; intro g3 w L HL S F))
  go_wp2
  go_loopw [5] (fun i wr => ∃ (k : Nat), k ≤ n ∧ i = .int .i64 k ∧ St w0 wr L) (fun i _ => n - (intOf i).toNat)
  case atStart => exact ⟨0, Nat.zero_le _, rfl, S⟩
  case round =>
    clear S
    obtain ⟨k, hk, rfl, S⟩ := hrel
    by_cases hlt : k < n
    · obtain ⟨b, off, rfl, hb, hc⟩ := HA.out (by omega)
      obtain ⟨b', off', rfl, hb', hc'⟩ := HB.out (by omega)
      have c1 := fun w' (S' : St w0 w' L) => (S'.below.cell (p := ⟨b, off + k, none⟩) hb).trans (hc k _ (ints_getD xs k (by rw [HX.out]; exact hlt)))
      have c2 := fun w' (S' : St w0 w' L) => (S'.below.cell (p := ⟨b', off' + k, none⟩) hb').trans (hc' k _ (ints_getD xs k (by rw [HX.out]; exact hlt)))
      clear hc hc'
      go_upto_region 6 with fail
      have HL0 := HL; have F0 := F; refine wp_region_tree (S := fun w' => St w0 w' L) (qcs 0 11 .fin) (by kernel_rfl) (by kernel_rfl) (by kernel_rfl) (by intro c a d v w h; cases d <;> exact h) ?_; dsimp only [qcs, Nat.reduceAdd]; replace S := S.drew
      repeat (first | refine qCa ?_ | refine qAn ?_ | refine qSk ?_ | (refine tree_act rfl rfl ?_ tree_stop; intro K hK; go_wp2_with (first | fail); (refine qKo hK ?_; clear hK K)))
      refine tree_fin ?_
      go_wp2
      go_roundw
      case rel => exact ⟨k + 1, by omega, by go_num, S⟩
      case measure => simp [intOf]; omega
    · obtain rfl : k = n := by omega
      go_wp2
      go_ret
      exact ⟨rfl, S.below⟩
theorem C_spec_MTRight (R K D : Nat) (a1 a2 b1 b2 c1 c2 XA XB : List Int) (u1 u2 u3 u4 u5 u6 : Value) (w0 : World) (h1 : Ints w0 u1 a1) (h2 : Ints w0 u2 a2) (h3 : Ints w0 u3 b1) (h4 : Ints w0 u4 b2) (h5 : Ints w0 u5 c1) (h6 : Ints w0 u6 c2)
    (r1 : 1 ≤ R) (r2 : R ≤ 5) (k1 : 1 ≤ K) (k2 : K ≤ 5) (d1 : 1 ≤ D) (d2 : D ≤ 5)
    (hlA : likeMx ⟨R, K, a1⟩ ⟨R, K, a2⟩ = true) (hlB : likeMx ⟨K, D, b1⟩ ⟨K, D, b2⟩ = true) (hlC : likeMx ⟨R, D, c1⟩ ⟨R, D, c2⟩ = true) (n1 : a1.length ≤ 25) (n2 : a2.length ≤ 25) (n3 : b1.length ≤ 25) (n4 : b2.length ≤ 25) (n5 : c1.length ≤ 25) (n6 : c2.length ≤ 25)
    (hA : sumMx ⟨R, K, a1⟩ ⟨R, K, a2⟩ = ⟨R, K, XA⟩) (hB : sumMx ⟨K, D, b1⟩ ⟨K, D, b2⟩ = ⟨K, D, XB⟩) (hC : sumMx ⟨R, D, c1⟩ ⟨R, D, c2⟩ = ⟨R, D, tab (R * D) (mulAt XA XB K D)⟩)
    (lA : XA.length = R * K) (lB : XB.length = K * D) (aA : XA.all rv = true) (aB : XB.all rv = true) :
    Calls Tryz.prog 164 #[.agg #[.int .i64 R, .int .i64 K, u1, .int .i64 R, .int .i64 K, u2, .int .i64 K, .int .i64 D, u3, .int .i64 K, .int .i64 D, u4, .int .i64 R, .int .i64 D, u5, .int .i64 R, .int .i64 D, u6]] w0 fun e w' => e = .returned (.bool true) ∧ Below w0.heap.size w0 w' := by
  have CA := fun w h h' => C_spec_JoinL R K a1 R K a2 u1 u2 _ w h h' (by omega) (by omega) hA
  have CB := fun w h h' => C_spec_JoinL K D b1 K D b2 u3 u4 _ w h h' (by omega) (by omega) hB
  have CC := fun w h h' => C_spec_JoinL R D c1 R D c2 u5 u6 _ w h h' (by omega) (by omega) hC
  have CM := fun u v w h h' => C_spec_Mul R K D XA XB u v w h h' r1 r2 k1 k2 d1 d2 lA lB aA aB
  unfold MakesMx at CA CB CC CM
  dsimp only at CA CB CC
  rw [tab_length] at CC CM
  have hzl : (tab (R * D) (mulAt XA XB K D)).length = R * D := tab_length _ _
  rw [lA] at CA
  rw [lB] at CB
  generalize tab (R * D) (mulAt XA XB K D) = zs at CM CC hzl
  have HZ := Lib.hid hzl
  have LA := Lib.hid lA
  have LB := Lib.hid lB
  have H1 := Lib.hid h1
  have H2 := Lib.hid h2
  have H3 := Lib.hid h3
  have H4 := Lib.hid h4
  have H5 := Lib.hid h5
  have H6 := Lib.hid h6
  have HLA := Lib.hid hlA
  have HLB := Lib.hid hlB
  have HLC := Lib.hid hlC
  clear h1 h2 h3 h4 h5 h6 hA hB hC lA lB aA aB hlA hlB hlC hzl r1 r2 k1 k2 d1 d2 n1 n2 n3 n4 n5 n6
  generalize R * K = NA at *
  generalize K * D = NB at *
  generalize R * D = NC at *
  obtain ⟨L, HL, S⟩ := st_start w0; have F : True := trivial
  go_enter Tryz.func164, Tryz.ntmps164
  go_upto_region 3 with (first | (refine qbx HL S ?_; clear F S HL; intro g w L HL S F) | refine qLb6 S ?_ | (go_at_call 43; refine qGr S (C_spec_SharedMatrixValid _ _ _ _ _ _ _ _ _ _ (by first | exact H1.out.at_ S | exact H3.out.at_ S | exact H5.out.at_ S) (by first | exact H2.out.at_ S | exact H4.out.at_ S | exact H6.out.at_ S) (by first | exact HLA.out | exact HLB.out | exact HLC.out)) ?_; clear S; intro w S))
  (rw [HL.out] at S; have T := (S.toObj (p := 0) rfl); clear S HL F; have S := T; clear T; (try simp only [List.set_cons_zero, List.set_cons_succ] at S); obtain ⟨L, hM, T⟩ := st_name S; clear S; have S := T; clear T; have HL := Lib.hid hM; clear hM; have F := qFc HL S)
  have HL0 := HL; have F0 := F; refine wp_region_tree (S := fun w' => St w0 w' L) (.calm 0 (.calm 1 (.calm 3 (.calm 4 (.calm 6 (.calm 7 (.act 2 (.act 5 (.act 8 (.act 9 (.act 10 (.calm 11 .fin) .stop) .stop) .stop) .stop) .stop))))))) (by kernel_rfl) (by kernel_rfl) (by kernel_rfl) (by intro c a d v w h; cases d <;> exact h) ?_; replace S := S.drew
  repeat (first | refine qTo6 ?_ | refine qCa ?_ | refine qAn ?_ | refine qSk ?_ | (refine tree_act rfl rfl ?_ tree_stop; intro K hK; go_wp2_with (first | (go_at_call 122; refine (CA _ (H1.out.at_ S) (H2.out.at_ S)).mono ?_; rintro e w ⟨u, rfl, T0⟩; have hX := qcl HL S T0; clear F S HL T0; obtain ⟨L, HL, S, F⟩ := hX; obtain ⟨A', cap', rfl, hcap', hmax'⟩ := qSl HL S 0) | (go_at_call 122; refine (CB _ (H3.out.at_ S) (H4.out.at_ S)).mono ?_; rintro e w ⟨u, rfl, T0⟩; have hX := qcl HL S T0; clear F S HL T0; obtain ⟨L, HL, S, F⟩ := hX; obtain ⟨A', cap', rfl, hcap', hmax'⟩ := qSl HL S 0) | (go_at_call 122; refine (CC _ (H5.out.at_ S) (H6.out.at_ S)).mono ?_; rintro e w ⟨u, rfl, T0⟩; have hX := qcl HL S T0; clear F S HL T0; obtain ⟨L, HL, S, F⟩ := hX; obtain ⟨A', cap', rfl, hcap', hmax'⟩ := qSl HL S 0) | (go_at_call 162; refine (CM _ _ _ (by unfold Ints; rw [LA.out]; exact (Sees.row S qAt)) (by unfold Ints; rw [LB.out]; exact (Sees.row S qAt))).mono ?_; rintro e w ⟨u, rfl, T0⟩; have hX := qcl HL S T0; clear F S HL T0; obtain ⟨L, HL, S, F⟩ := hX; obtain ⟨A', cap', rfl, hcap', hmax'⟩ := qSl HL S 0) | (go_at_call 189; refine qGr S (C_l8Same _ _ zs _ _ _ (by unfold Ints; rw [HZ.out]; exact (Sees.row S qAt)) (by unfold Ints; rw [HZ.out]; exact (Sees.row S qAt))) ?_; clear S; intro w S)); (refine qKo hK ?_; clear hK K)))
  refine tree_fin ?_
  go_wp2
  go_ret
  exact ⟨rfl, S.below⟩
theorem C_ownMT (R K D : Nat) (a1 a2 b1 b2 c1 c2 : List Int) (u1 u2 u3 u4 u5 u6 : Value) (w0 : World) (h1 : Ints w0 u1 a1) (h2 : Ints w0 u2 a2) (h3 : Ints w0 u3 b1) (h4 : Ints w0 u4 b2) (h5 : Ints w0 u5 c1) (h6 : Ints w0 u6 c2) (n1 : a1.length ≤ 25) (n2 : a2.length ≤ 25) (n3 : b1.length ≤ 25) (n4 : b2.length ≤ 25) (n5 : c1.length ≤ 25) (n6 : c2.length ≤ 25) :
    Calls Tryz.prog 163 #[.agg #[.int .i64 R, .int .i64 K, u1, .int .i64 R, .int .i64 K, u2, .int .i64 K, .int .i64 D, u3, .int .i64 K, .int .i64 D, u4, .int .i64 R, .int .i64 D, u5, .int .i64 R, .int .i64 D, u6]] w0 fun e w => ∃ (t1 t2 t3 t4 t5 t6 : Value), e = .returned (.agg #[.int .i64 R, .int .i64 K, t1, .int .i64 R, .int .i64 K, t2, .int .i64 K, .int .i64 D, t3, .int .i64 K, .int .i64 D, t4, .int .i64 R, .int .i64 D, t5, .int .i64 R, .int .i64 D, t6]) ∧
      St w0 w [.row 3 1 t6 c2.length (ints c2), .row 3 1 t5 c1.length (ints c1), .row 3 1 t4 b2.length (ints b2), .row 3 1 t3 b1.length (ints b1), .row 3 1 t2 a2.length (ints a2), .row 3 1 t1 a1.length (ints a1)] := by
  have CA := fun u v w h h' => C_l1OwnSharedMatrix R K a1 R K a2 u v w h h' (by omega) (by omega)
  have CB := fun u v w h h' => C_l1OwnSharedMatrix K D b1 K D b2 u v w h h' (by omega) (by omega)
  have CC := fun u v w h h' => C_l1OwnSharedMatrix R D c1 R D c2 u v w h h' (by omega) (by omega)
  unfold MakesSMx at CA CB CC
  have H1 := Lib.hid h1
  have H2 := Lib.hid h2
  have H3 := Lib.hid h3
  have H4 := Lib.hid h4
  have H5 := Lib.hid h5
  have H6 := Lib.hid h6
  obtain ⟨_, A1, q1, rfl, _, _, _⟩ := h1
  obtain ⟨_, A2, q2, rfl, _, _, _⟩ := h2
  obtain ⟨_, A3, q3, rfl, _, _, _⟩ := h3
  obtain ⟨_, A4, q4, rfl, _, _, _⟩ := h4
  obtain ⟨_, A5, q5, rfl, _, _, _⟩ := h5
  obtain ⟨_, A6, q6, rfl, _, _, _⟩ := h6
  clear n1 n2 n3 n4 n5 n6
  obtain ⟨L, HL, S⟩ := st_start w0; have F : True := trivial
  go_enter Tryz.func163, Tryz.ntmps163
  go_upto_region 1 with (first | (refine qbd 1 HL S ?_; clear F S HL; intro g1 w L HL S F) | (refine qal HL S zMTri ?_; clear F S HL; intro g2 w L HL S F))
  (rw [HL.out] at S; have T := ((S.toObj (p := 0) rfl).toObj (p := 1) rfl); clear S HL F; have S := T; clear T; (try simp only [List.set_cons_zero, List.set_cons_succ] at S); obtain ⟨L, hM, T⟩ := st_name S; clear S; have S := T; clear T; have HL := Lib.hid hM; clear hM; have F := qFc HL S)
  go_upto_region 3 with (first | refine qLo18 S ?_ | refine qLo6 S ?_ | (refine qal HL S zMTri ?_; clear F S HL; intro g3 w L HL S F) | (refine qst HL S 0 ?_; clear F S HL; intro w L HL S F) | (refine qst HL S 2 ?_; clear F S HL; intro w L HL S F) | (go_at_call 42; refine (CA _ _ _ (H1.out.at_ S) (H2.out.at_ S)).mono ?_; rintro e w ⟨u, v, rfl, T0⟩; have hX := qcl HL S T0; clear F S HL T0; obtain ⟨L, HL, S, F⟩ := hX; obtain ⟨A', cap', rfl, hcap', hmax'⟩ := qSl HL S 0; obtain ⟨A', cap', rfl, hcap', hmax'⟩ := qSl HL S 1))
  go_upto_region 4 with (first | refine qLo6 S ?_ | (refine qst HL S 4 ?_; clear F S HL; intro w L HL S F) | (go_at_call 42; refine (CB _ _ _ (H3.out.at_ S) (H4.out.at_ S)).mono ?_; rintro e w ⟨u, v, rfl, T0⟩; have hX := qcl HL S T0; clear F S HL T0; obtain ⟨L, HL, S, F⟩ := hX; obtain ⟨A', cap', rfl, hcap', hmax'⟩ := qSl HL S 0; obtain ⟨A', cap', rfl, hcap', hmax'⟩ := qSl HL S 1))
  go_upto_region 5 with (first | refine qLo6 S ?_ | (refine qst HL S 6 ?_; clear F S HL; intro w L HL S F) | (go_at_call 42; refine (CC _ _ _ (H5.out.at_ S) (H6.out.at_ S)).mono ?_; rintro e w ⟨u, v, rfl, T0⟩; have hX := qcl HL S T0; clear F S HL T0; obtain ⟨L, HL, S, F⟩ := hX; obtain ⟨A', cap', rfl, hcap', hmax'⟩ := qSl HL S 0; obtain ⟨A', cap', rfl, hcap', hmax'⟩ := qSl HL S 1))
  (rw [HL.out] at S; have T := (S.toBox (p := 7) rfl); clear S HL F; have S := T; clear T; (try simp only [List.set_cons_zero, List.set_cons_succ] at S); obtain ⟨L, hM, T⟩ := st_name S; clear S; have S := T; clear T; have HL := Lib.hid hM; clear hM; have F := qFc HL S)
  go_wp2_with (first | refine qLb18 S ?_ | (refine qst HL S 7 ?_; clear F S HL; intro w L HL S F))
  ((try simp only [Exit.inBlock, Exit.then]); refine ret1 rfl (resCell S HL 7 rfl rfl (by kernel_rfl)) rfl ?_)
  exact ⟨_, _, _, _, _, _, rfl, (by rw [HL.out] at S; exact S.sel (by exact qSel))⟩
end
end Go.Proofs.YtjgfjfjboimgdaaGreat
