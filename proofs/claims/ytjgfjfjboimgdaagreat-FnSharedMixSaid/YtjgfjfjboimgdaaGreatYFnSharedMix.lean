/-
  Proved here: shared mixing is mixing: joined it is PlainMix of what is shared.
-/
import Derived.Test.YtjgfjfjboimgdaaGreatY31
import Derived.Test.YtjgfjfjboimgdaaGreatY51
import Derived.Test.YtjgfjfjboimgdaaGreatY60
namespace Go.Proofs.YtjgfjfjboimgdaaGreat
set_option linter.unusedSimpArgs false
set_option linter.unusedVariables false
set_option linter.unusedSectionVars false
section
open Go Go.RowKit Go.ChangeShapes Go.WideShapes Go.ChangeAt
theorem smx_perm (r b x : Ent) (A R : List Ent) : (r :: b :: x :: (A ++ R)).Perm (b :: x :: (R ++ (r :: A))) :=
  (List.perm_append_comm_assoc [r] [b, x] (A ++ R)).trans (((List.perm_append_comm (l₁ := r :: A) (l₂ := R)).cons x).cons b)
section
attribute [local irreducible] wpList Oper.wp Calls
set_option maxHeartbeats 40000000 in
set_option maxRecDepth 20000 in
theorem L_FnSharedMix (v : Value) (w0 : World) (h : Bytes w0 v) : Calls Tryz.prog 4 #[v] w0 fun e w' => e = .returned (.bool true) ∧ Below w0.heap.size w0 w' := by
  have HB0 := Lib.hid h
  obtain ⟨A, n, cap, rfl, hcap, hmax, _⟩ := h
  unfold maxLen at hmax
  by_cases hbig : n > 1048576
  · obtain ⟨L, HL, S⟩ := st_start w0; have F : True := trivial
    go_enter Tryz.func4, Tryz.ntmps4
    go_wp2_with (first | (refine qbx HL S ?_; clear F S HL; intro g w L HL S F)  | (refine qst HL S 0 ?_; clear F S HL; intro w L HL S F) | (refine qst HL S 1 ?_; clear F S HL; intro w L HL S F) | (refine qst HL S 2 ?_; clear F S HL; intro w L HL S F) | (refine qst HL S 3 ?_; clear F S HL; intro w L HL S F)  )
    go_ret
    exact ⟨rfl, S.below⟩
  obtain ⟨L, HL, S⟩ := st_start w0; have F : True := trivial
  go_enter Tryz.func4, Tryz.ntmps4
  go_upto_region 4 with (first | (go_at_call 23; refine (C_DrawSharedMix _ _ (HB0.out.below S.below)).mono ?_; rintro e w0 ⟨ls, x, s, v, u, t, rfl, hf, hxl, hs, hu, hv, hb⟩; have HBB := Lib.hid (S.below.trans (hb.mono S.below.size)); clear S HL F hb; have HS := Lib.hid hs; have HU := Lib.hid hu; have HV := Lib.hid hv; obtain ⟨B0, cb0, rfl, hcb0, hmb0, _⟩ := hs; obtain ⟨_, B2, cb2, rfl, hcb2, hmb2, _⟩ := hu; obtain ⟨_, B3, cb3, rfl, hcb3, hmb3, _⟩ := hv; obtain ⟨L, HL, S⟩ := st_start w0; have F : True := trivial) | (refine qal HL S zSMx ?_; clear F S HL; intro gx w L HL S F) | (refine qst HL S 0 ?_; clear F S HL; intro w L HL S F))
  obtain ⟨hf1, hf2⟩ := hf
  obtain ⟨hx1, hx2⟩ := hxl
  obtain ⟨z, hz⟩ : ∃ z, mixR ls x s = z := ⟨_, rfl⟩
  have hsm : ∀ m ∈ ls, SMSmall 1048576 m := fun m hm => by have := hf2 m hm; exact ⟨by omega, by omega⟩
  have CI := fun t u v w ht hu hv => C_impl_SharedMix ls x s t u v z w ht hu hv hz
  have CS := fun t u v w ht hu hv => C_spec_SharedMix ls x s t u v z w ht (by omega) hsm hu hv (by omega) (by omega) hz
  unfold MakesScl at CI CS
  (try dsimp only at CI CS)
  have HZ := Lib.hid hz
  have HF := Lib.hid (And.intro hf1 hf2)
  clear hz hf1 hf2 hsm
  go_upto_region 5 with (first | refine qLb6 S ?_ | (go_at_call 14; refine (CI _ _ _ _ (HS.out.at_ S) (HU.out.at_ S) (HV.out.at_ S)).mono ?_; rintro e w ⟨u1, v1, o1, rfl, T0⟩; have hX := qcl HL S T0; clear F S HL T0; obtain ⟨L, HL, S, F⟩ := hX; obtain ⟨O1, e1, rfl, heo1, hmo1⟩ := qSl HL S 0; obtain ⟨B1, d1, rfl, hdb1, hmb1⟩ := qSl HL S 1; obtain ⟨A1, c1, rfl, hca1, hma1⟩ := qSl HL S 2) | (refine qal HL S zSMx ?_; clear F S HL; intro gs w L HL S F) | (refine qst HL S 0 ?_; clear F S HL; intro w L HL S F))
  go_upto_region 6 with (first | refine qLb6 S ?_ | (go_at_call 11; refine (CS _ _ _ _ (HS.out.at_ S) (HU.out.at_ S) (HV.out.at_ S)).mono ?_; rintro e w ⟨u7, v7, o7, rfl, T0⟩; have hX := qcl HL S T0; clear F S HL T0; obtain ⟨L, HL, S, F⟩ := hX; obtain ⟨O7, e7, rfl, heo7, hmo7⟩ := qSl HL S 0; obtain ⟨B7, d7, rfl, hdb7, hmb7⟩ := qSl HL S 1; obtain ⟨A7, c7, rfl, hca7, hma7⟩ := qSl HL S 2) | (refine qal HL S zSMx ?_; clear F S HL; intro gt w L HL S F) | (refine qst HL S 0 ?_; clear F S HL; intro w L HL S F))
  clear CI CS
  go_upto_region 8 with (first | refine qLb6 S ?_ | (go_at_call 24; refine qGr S (C_sameSsL _ _ _ _ _ _ _ _ _ _ _ (by exact (Sees.row S qAt)) (by exact (Sees.row S qAt)) (by exact (Sees.row S qAt)) (by exact (Sees.row S qAt))) ?_; clear S; intro w S) | (go_at_call 25; refine qGr S (C_sameInts _ _ _ _ (by exact (Sees.row S qAt)) (by exact (Sees.row S qAt))) ?_; clear S; intro w S))
  cases hok : mixOk ls x s with
  | false =>
    have hz := HZ.out
    rw [mixR_not hok] at hz
    have e1 : z.last = 0 := by rw [← hz]
    have e2 : z.m.a.r = 0 := by rw [← hz]; rfl
    have e3 : z.os.length = 0 := by rw [← hz]; rfl
    have e4 : (z.last == 0) = true := by rw [e1]; rfl
    clear hz hok
    go_wp2_with (first | (go_at_call 26; refine qPu (C_alive _) ?_))
    go_ret
    exact ⟨rfl, HBB.out.trans (S.below.mono HBB.out.size)⟩
  | true =>
  have hlast : (z.last == 0) = false ∧ ¬ z.last = 0 := by
    have h1 := (mix_law hok).2.1
    rw [HZ.out] at h1
    have h2 := seedOk_bd h1
    exact ⟨by rw [beq_eq_false_iff_ne]; omega, by omega⟩
  obtain ⟨hl1, hl2⟩ := hlast
  have law := (mix_law hok).2.2
  rw [HZ.out] at law
  obtain ⟨d, hd⟩ : ∃ d, joinMx z.m = d := ⟨_, rfl⟩
  obtain ⟨y, hy⟩ : ∃ y, joinMx x = y := ⟨_, rfl⟩
  rw [hd, hy] at law
  have hn3 : ls.length = 3 := by
    obtain ⟨a, b, c, rfl, _⟩ := mixOk_parts hok
    rfl
  have CX := fun u v w h h' => C_impl_JoinL x.a.r x.a.c x.a.xs x.b.r x.b.c x.b.xs u v y w h h' hy
  have CZ := fun u v w h h' => C_impl_JoinL z.m.a.r z.m.a.c z.m.a.xs z.m.b.r z.m.b.c z.m.b.xs u v d w h h' hd
  have CP := fun v u w h hx => C_impl_PlainMix ⟨3, ls.map joinMx⟩ y d v u w h hx law.symm
  unfold MakesMx at CX CZ CP
  dsimp only at CP
  have HN := Lib.hid hn3
  have hs := HS.out
  rw [hn3] at hcb0
  (try rw [hn3] at HL)
  (try rw [hn3] at F)
  (try rw [hn3])
  clear law hd hy hn3 hok
  go_upto_region 11 with (first | (refine qal HL S zLy ?_; clear F S HL; intro g12 w L HL S F) | (refine qst HL S 0 ?_; clear F S HL; intro w L HL S F))
  rw [HL.out] at S
  replace S := (S.nilRow 30 3).sel (M := [_, .box g12 _ _, .box gx _ _, .box gs _ _, .row 3 1 (.slice B1 z.m.b.xs.length d1) z.m.b.xs.length (ints z.m.b.xs), .row 3 1 (.slice A1 z.m.a.xs.length c1) z.m.a.xs.length (ints z.m.a.xs)]) (by repeat (first | exact Sel.nil | refine Sel.cons 0 rfl ?_ | refine Sel.cons 1 rfl ?_ | refine Sel.cons 2 rfl ?_ | refine Sel.cons 3 rfl ?_ | refine Sel.cons 4 rfl ?_ | refine Sel.cons 5 rfl ?_ | refine Sel.cons 6 rfl ?_ | refine Sel.cons 7 rfl ?_ | refine Sel.cons 8 rfl ?_ | refine Sel.cons 9 rfl ?_ | refine Sel.cons 10 rfl ?_))
  clear HL F
  obtain ⟨L, hM, T⟩ := st_name S; clear S; have S := T; clear T; have HL := Lib.hid hM; clear hM; have F := qFc HL S
  obtain ⟨A0', cap0', e0, _, _, hA⟩ := hs
  simp only [Value.slice.injEq] at e0
  obtain ⟨rfl, _, rfl⟩ := e0
  obtain ⟨b', off', rfl, hb', hc'⟩ := hA (by rw [HN.out]; decide)
  have HC := Lib.hid hc'
  clear hA hc'
  unfold maxLen at hmb0
  go_wp2
  go_loopw [13] (fun i wr => ∃ (j : Nat) (ps : MsO) (u : Value) (L : List Ent), j ≤ 3 ∧ i = .int .i64 j ∧ Hid (ps.map Prod.snd = (ls.take j).map joinMx) ∧ Hid (L = .row 30 3 u j (cellsM ps) :: .box g12 51 [.int .i64 3, u] :: .box gx 32 [.int .i64 x.a.r, .int .i64 x.a.c, .slice B2 x.a.xs.length cb2, .int .i64 x.b.r, .int .i64 x.b.c, .slice B3 x.b.xs.length cb3] :: (rowsM ps ++ [.box gs 32 [.int .i64 z.m.a.r, .int .i64 z.m.a.c, .slice A1 z.m.a.xs.length c1, .int .i64 z.m.b.r, .int .i64 z.m.b.c, .slice B1 z.m.b.xs.length d1], .row 3 1 (.slice B1 z.m.b.xs.length d1) z.m.b.xs.length (ints z.m.b.xs), .row 3 1 (.slice A1 z.m.a.xs.length c1) z.m.a.xs.length (ints z.m.a.xs)])) ∧ St w0 wr L) (fun i _ => 3 - (intOf i).toNat)
  case atStart => exact ⟨0, [], .slice none 0 0, L, Nat.zero_le _, rfl, Lib.hid rfl, Lib.hid (HL.out.trans rfl), S⟩
  case round =>
    clear F HL S
    obtain ⟨j, ps, u, L, hj, rfl, HP2, HL, S⟩ := hrel
    have hps : ps.length = j := by
      have := congrArg List.length HP2.out
      rw [List.length_map, List.length_map, List.length_take, HN.out] at this
      omega
    have HPS := Lib.hid hps
    clear hps
    obtain ⟨Au, cu, rfl, hcu, hmu⟩ := qSl HL S 0
    have F := factsAll HL S
    simp only [factsOf, cellsFrom, and_true, true_and, Nat.reduceAdd] at F
    by_cases hlt2 : j < 3
    · obtain ⟨mm, hm2⟩ := some_at HN.out hlt2
      obtain ⟨⟨r, c, xs⟩, ⟨r', c', ys⟩⟩ := mm
      obtain ⟨x1, x2, d1', d2, d3, d4, d5, d6, hxx1, hxx2⟩ := HC.out j _ hm2
      dsimp only at d1' d2 d3 d4 d5 d6 hxx1 hxx2
      have H1 := Lib.hid hxx1
      have H2 := Lib.hid hxx2
      obtain ⟨-, A5, k5, rfl, hk5, hm5, -⟩ := hxx1
      obtain ⟨-, A6, k6, rfl, hk6, hm6, -⟩ := hxx2
      have hp' := take_at hm2
      have e1 : ((ls.take (j + 1)).map joinMx) = (ls.take j).map joinMx ++ [sumMx ⟨r, c, xs⟩ ⟨r', c', ys⟩] := by rw [hp', List.map_append]; rfl
      obtain ⟨t, ht⟩ : ∃ t, sumMx ⟨r, c, xs⟩ ⟨r', c', ys⟩ = t := ⟨_, rfl⟩
      rw [← HP2.out, ht] at e1
      have HP3 := Lib.hid e1
      have CJ := fun w h h' => C_impl_JoinL r c xs r' c' ys (.slice A5 xs.length k5) (.slice A6 ys.length k6) t w h h' ht
      unfold MakesMx at CJ
      obtain ⟨tr, tc, ts⟩ := t
      dsimp only at CJ
      have D1 := Lib.hid d1'
      have D2 := Lib.hid d2
      have D3 := Lib.hid d3
      have D4 := Lib.hid d4
      have D5 := Lib.hid d5
      have D6 := Lib.hid d6
      clear d1' d2 d3 d4 d5 d6 hm2 hp' e1 ht
      go_upto_region 14 with fail
      have hT := congrArg List.tail HL.out; simp only [List.tail_cons] at hT; obtain ⟨L1, hL1⟩ : ∃ M, M = L.tail := ⟨_, rfl⟩; rw [← hL1] at hT; have HL0 := Lib.hid hT; have S1 := S.sub (List.tail_sublist L); rw [← hL1] at S1; have F0 := qFc HL0 S1; clear S1 hL1 hT; (have g1 := fun w' (S' : St w0 w' L1) => (S'.below.cell (p := ⟨b', off' + j * 6, none⟩) hb').trans D1.out); (have g2 := fun w' (S' : St w0 w' L1) => (S'.below.cell (p := ⟨b', off' + j * 6 + 1, none⟩) hb').trans D2.out); (have g3 := fun w' (S' : St w0 w' L1) => (S'.below.cell (p := ⟨b', off' + j * 6 + 2, none⟩) hb').trans D3.out); (have g4 := fun w' (S' : St w0 w' L1) => (S'.below.cell (p := ⟨b', off' + j * 6 + 3, none⟩) hb').trans D4.out); (have g5 := fun w' (S' : St w0 w' L1) => (S'.below.cell (p := ⟨b', off' + j * 6 + 4, none⟩) hb').trans D5.out); (have g6 := fun w' (S' : St w0 w' L1) => (S'.below.cell (p := ⟨b', off' + j * 6 + 5, none⟩) hb').trans D6.out); refine wp_region_tree (S := fun w' => St w0 w' L1) (qcs 0 6 (.act 6 (.act 7 (.act 8 (.calm 9 (.act 10 .fin .stop)) .stop) .stop) .stop)) (by kernel_rfl) (by kernel_rfl) (by kernel_rfl) (by intro c a d v w h; cases d <;> exact h) ?_; dsimp only [qcs, Nat.reduceAdd]; replace S := S.drew
      repeat (first | refine qCaX ?_ | refine qAnX ?_ | refine qSkX ?_ | (refine tree_act rfl rfl ?_ tree_stop; intro K hK; (refine wp_litX S _ _ rfl 30 Tryz.underlying49 infoMx _ _ _ rfl ?_; clear F S; intro g w L hM S; replace HL := qNm HL hM; clear hM; have F := qFc HL S); (refine qKoX hK ?_; clear hK K)) | (refine tree_act rfl rfl ?_ tree_stop; intro K hK; (refine wp_append_boxB S _ _ _ rfl 30 _ 3 40 Tryz.underlying49 infoMx rfl (by omega) 2 _ _ _ rfl (atOf HL rfl) (by omega) 0 _ _ _ _ _ rfl (atOf HL rfl) rfl rfl rfl rfl ?_; clear F S; intro u w L hM S; replace HL := qNm HL hM; clear hM; have F := qFc HL S; obtain ⟨Au2, cu2, rfl, hcu2, hmu2⟩ := qSl HL S 2); (refine qKoX hK ?_; clear hK K)) | (refine tree_act rfl rfl ?_ tree_stop; intro K hK; (refine qsw HL S 3 ?_; clear F S HL; intro w L HL S F); (refine qKoX hK ?_; clear hK K)) | (refine tree_act rfl rfl ?_ tree_stop; intro K hK; go_wp2_with (first | (go_at_call 27; refine (CJ _ (H1.out.at_ S) (H2.out.at_ S)).mono ?_; rintro e w ⟨u, rfl, T0⟩; have hX := qcl HL S T0; clear F S HL T0; obtain ⟨L, HL, S, F⟩ := hX; obtain ⟨A', cap', rfl, hcap', hmax'⟩ := qSl HL S 0)); (refine qKoX hK ?_; clear hK K)))
      refine tree_fin ?_
      clear HL0 F0 g1 g2 g3 g4 g5 g6
      go_wp2
      go_roundw
      case rel =>
        rw [HL.out] at S
        have T := (S.sub (.cons _ (.refl _))).perm (jn_perm3 _ _ _ _ _ _)
        exact ⟨j + 1, ps ++ [(_, ⟨tr, tc, ts⟩)], _, _, by omega, by go_num, Lib.hid (by rw [HP3.out, List.map_append]; rfl), Lib.hid (by rw [cellsM_add, rowsM_add]; rfl), T⟩
      case measure => simp [intOf]; omega
    · obtain rfl : j = 3 := by omega
      have hsn : ps.map Prod.snd = ls.map joinMx := by rw [HP2.out, List.take_of_length_le (by rw [HN.out]; exact Nat.le_refl _)]
      have HSN := Lib.hid hsn
      clear hsn
      rw [HL.out] at S
      have T := S.perm (smx_perm _ _ _ (rowsM ps) _)
      simp only [List.cons_append, List.nil_append] at T
      clear S HL F
      have S := T
      clear T
      obtain ⟨L, hM, T⟩ := st_name S; clear S; have S := T; clear T; have HL := Lib.hid hM; clear hM; have F := qFc HL S
      go_upto_region 15 with fail
      have HL0 := HL; have F0 := F; refine wp_region_tree (S := fun w' => St w0 w' L) (.calm 0 (.calm 2 (.calm 3 (.act 1 (.act 4 (.act 5 (.act 6 (.calm 7 .fin) .stop) .stop) .stop) .stop)))) (by kernel_rfl) (by kernel_rfl) (by kernel_rfl) (by intro c a d v w h; cases d <;> exact h) ?_; replace S := S.drew
      repeat (first | refine qTb6X ?_ | refine qCaX ?_ | refine qAnX ?_ | refine qSkX ?_ | (refine tree_act rfl rfl ?_ tree_stop; intro K hK; go_wp2_with (first | (go_at_call 27; refine (CZ _ _ _ (Sees.row S qAt) (Sees.row S qAt)).mono ?_; rintro e w ⟨u9, rfl, T0⟩; have hX := qcl HL S T0; clear F S HL T0; obtain ⟨L, HL, S, F⟩ := hX; obtain ⟨A', cap', rfl, hcap', hmax'⟩ := qSl HL S 0) | (go_at_call 27; refine (CX _ _ _ (HU.out.at_ S) (HV.out.at_ S)).mono ?_; rintro e w ⟨u9, rfl, T0⟩; have hX := qcl HL S T0; clear F S HL T0; obtain ⟨L, HL, S, F⟩ := hX; obtain ⟨A', cap', rfl, hcap', hmax'⟩ := qSl HL S 0) | (go_at_call 29; refine (CP _ _ _ (HSN.out ▸ sees_ms S (by unfold entsM; rw [HPS.out, HL.out]; intro e he; rcases List.mem_cons.1 he with h0 | h0; (simp [h0]); (simp [h0])) : SeesMs _ _ (ls.map joinMx)) (Sees.row S qAt)).mono ?_; rintro e w ⟨u9, rfl, T0⟩; have hX := qcl HL S T0; clear F S HL T0; obtain ⟨L, HL, S, F⟩ := hX; obtain ⟨A', cap', rfl, hcap', hmax'⟩ := qSl HL S 0) | (go_at_call 28; refine qGr S (C_sameMxL _ _ _ _ _ _ (by exact (Sees.row S qAt)) (by exact (Sees.row S qAt))) ?_; clear S; intro w S)); (refine qKoX hK ?_; clear hK K)))
      refine tree_fin ?_
      go_wp2
      go_ret
      exact ⟨rfl, HBB.out.trans (S.below.mono HBB.out.size)⟩
end
set_option maxRecDepth 100000 in
theorem FnSharedMix_lifted (os : Os) (started : os.Started) (H : Type) (enc : TypeId × Value → H) :
    ReturnsInHanded {} Tryz.checked os 4 .any (Rows.fnSharedMixSpec.pre6 enc Tryz.prog Tryz.f4 Rows.fnSharedMixRow.domain false) (Rows.fnSharedMixSpec.post enc Tryz.prog Tryz.f4 false true false false) := by
  refine returnsInHanded_of_change (C := Tryz.checked) Tryz.ownKnob_ started (by kernel_rfl) Tryz.func4
    (ChangeSpec.witness6 (enc := enc) (C := Tryz.checked) false ⟨#[], #[.slice none 0 0], []⟩ 8 (by kernel_rfl) (by kernel_rfl) (by kernel_rfl) (by kernel_rfl)) ?_
  intro W base args ds gs before hval0 hW _ _
  have hval : ∀ (j : Nat) t v, Tryz.f4.params[j]? = some t → args[j]? = some v → Value.okWide Tryz.prog W .any base t v := hval0
  have hW' := hW
  obtain ⟨p, q, hA0, hV, rfl, _, _⟩ := hW
  have hA : DataW.TrodAll enc Tryz.prog W 0 (fun _ => true) true Tryz.f4.params.toList args.toList ds p := hA0
  rw [Tryz.params4] at hA hval
  obtain ⟨v0, vs0, d0, ds0, p0, q0, hargs, rfl, rfl, h0, r0⟩ := trodAll_cons hA
  obtain ⟨rfl, rfl, rfl⟩ := trodAll_nil r0
  obtain rfl : args = #[v0] := by cases args; simp_all
  obtain ⟨rfl, rfl⟩ := trodVars_none hV
  clear hA0 hval0
  have s0 := open_bytes (e := 5) (by kernel_rfl) (hval 0 _ v0 rfl rfl) h0
  refine (L_FnSharedMix _ W s0).mono fun e W' ⟨he, hb⟩ => ⟨_, he, ?_⟩
  exact law_post 4 Tryz.underlying4 Tryz.laidOut_ (by kernel_rfl) rfl rfl hW' ⟨rfl, rfl, rfl⟩ hb
theorem FnSharedMix_holds : Rows.FnSharedMixSaid :=
  OpenClaim.holds_of_wide 4 Tryz.f4 rfl rfl rfl rfl rfl rfl rfl ⟨rfl, rfl, rfl, rfl, rfl⟩ rfl rfl rfl rfl rfl (by kernel_rfl) Tryz.func4 (closed_of (by kernel_rfl))
    (of_decide_eq_true (by kernel_rfl)) (by unfold Func.isWrapper; first | (rw [if_pos (by decide +kernel)]; kernel_rfl) | (rw [if_neg (by decide +kernel)]; exact ⟨rfl, rfl⟩))
    (fun os started H enc _ => FnSharedMix_lifted os started H enc)
end
end Go.Proofs.YtjgfjfjboimgdaaGreat
