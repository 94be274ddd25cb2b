/- Hid MxP MulJ MixI MixJ PmI -/
import Derived.Test.YtjgfjfjboimgdaaGreatY34
import Derived.Test.YtjgfjfjboimgdaaGreatY35
namespace Go.Proofs.YtjgfjfjboimgdaaGreat
set_option linter.unusedSimpArgs false
set_option linter.unusedVariables false
set_option linter.unusedSectionVars false
open Go Go.RowKit
set_option maxHeartbeats 8000000
set_option maxRecDepth 20000
section
theorem Ints.three {w : World} {v : Value} {a b c : Int} (h : Ints w v [a, b, c]) : ∃ g off cap, v = .slice (some ⟨g, off, none⟩) 3 cap ∧ 3 ≤ cap ∧ cap ≤ maxLen ∧ g < w.heap.size ∧
    w.cell? ⟨g, off, none⟩ = some (.int .i64 a) ∧ w.cell? ⟨g, off + 1, none⟩ = some (.int .i64 b) ∧ w.cell? ⟨g, off + 2, none⟩ = some (.int .i64 c) := by
  obtain ⟨_, A, cap, rfl, hcap, hmax, hA⟩ := h
  obtain ⟨g, off, rfl, hg, hc⟩ := hA (by simp)
  exact ⟨g, off, cap, rfl, hcap, hmax, hg, hc 0 _ rfl, hc 1 _ rfl, hc 2 _ rfl⟩
end
section
theorem mulR_rvM {a b : Int} (ha : rv a = true) (hb : rv b = true) : rv (mulR a b) = true := by
  unfold mulR
  rw [ha, hb]
  exact rv_ro _
end
section
theorem C_impl_Map (kd : Int) (R C : Nat) (xs : List Int) (u : Value) (w0 : World) (h : Ints w0 u xs) (hk : kd = 1 ∨ kd = 2 ∨ kd = 3 ∨ kd = 4 ∨ kd = 5) (r1 : 1 ≤ R) (r2 : R ≤ 5) (c1 : 1 ≤ C) (c2 : C ≤ 5) (hl : xs.length = R * C) (a1 : xs.all rv = true) :
    Calls Tryz.prog 223 #[.int .i64 kd, .agg #[.int .i64 R, .int .i64 C, u]] w0 (MakesMx w0 R C (tab xs.length (mapV kd xs))) := by
  obtain ⟨N, hN⟩ : ∃ N, R * C = N := ⟨_, rfl⟩
  have b0 : N ≤ 25 := by
    have : R * C ≤ 5 * 5 := Nat.mul_le_mul r2 c2
    omega
  have p0 : 0 < N := by rw [← hN]; exact Nat.mul_pos r1 c1
  unfold MakesMx
  rw [tab_length]
  have HU := Lib.hid h
  have H1 := Lib.hid (Mx.ok_of r1 r2 c1 c2 hl a1)
  have HK := Lib.hid hk
  have CE := fun w => C_emptyMatrix R C N w hN b0
  have hkk : (decide (1 ≤ kd) && decide (kd ≤ 5)) = true := by simp; omega
  have HKK := Lib.hid hkk
  obtain ⟨_, A1, k1, rfl, hk1, hm1, hA1⟩ := h
  rw [hN] at hl
  rw [hl] at hk1 hA1
  obtain ⟨ba, oa, rfl, hba, hca⟩ := hA1 p0
  have HA := Lib.hid hca
  have HL1 := Lib.hid hl
  have HX := Lib.hid a1
  unfold MakesMx at CE
  rw [tab_length] at CE
  rw [HL1.out] at HU ⊢
  clear hA1 hca hl hN a1 hk hkk
  obtain ⟨L, HL, S⟩ := st_start w0; have F : True := trivial
  go_enter Tryz.func223, Tryz.ntmps223
  go_upto_region 1 with (first | (refine qbd 3 HL S ?_; clear F S HL; intro ga w L HL S F) | (refine qal HL S zMx ?_; clear F S HL; intro gr w L HL S F))
  go_upto_region 3 with (first | (go_at_call 144; refine qPu (C_functionKnown _ true _ HKK.out) ?_) | (go_at_call 70; refine qGr S (C_impl_MatrixValid _ _ _ _ _ _ (by exact HU.out.at_ S) (by exact H1.out)) ?_; clear S; intro w S))
  go_upto_region 4 with (first | (refine qal HL S zMx ?_; clear F S HL; intro g5 w L HL S F) | (refine qst HL S 0 ?_; clear F S HL; intro w L HL S F) | (go_at_call 103; refine (CE _).mono ?_; rintro e w ⟨u, rfl, T0⟩; have hX := qcl HL S T0; clear F S HL T0; obtain ⟨L, HL, S, F⟩ := hX; obtain ⟨A', cap', rfl, hcap', hmax'⟩ := qSl HL S 0))
  obtain ⟨gn, cn, ev, hcv, hmv⟩ := S.rowAt (p := 1) (atOf HL rfl) p0
  obtain ⟨rfl, rfl⟩ : A' = some ⟨gn, 0, none⟩ ∧ cap' = cn := by injection ev with e1 _ e3; exact ⟨e1, e3⟩
  clear ev CE
  go_wp2
  go_loopw [25] (fun i wr => ∃ (j : Nat) (L : List Ent), j ≤ N ∧ i = .int .i64 j ∧ Hid (L = [.box g5 30 [.int .i64 R, .int .i64 C, .slice (some ⟨gn, 0, none⟩) N cap'], .row 3 1 (.slice (some ⟨gn, 0, none⟩) N cap') N (ints (tab N fun q => if q < j then mapV kd xs q else 0)), .box gr 30 [.int .i64 0, .int .i64 0, .slice none 0 0], .box ga 30 [.int .i64 R, .int .i64 C, .slice (some ⟨ba, oa, none⟩) N k1]]) ∧ St w0 wr L) (fun i _ => N - (intOf i).toNat)
  case atStart => exact ⟨0, L, Nat.zero_le _, rfl, Lib.hid (by rw [HL.out, fil_zero]), S⟩
  case round =>
    clear F HL S
    obtain ⟨j, L, hj, rfl, HL, S⟩ := hrel
    have F := factsAll HL S
    simp only [factsOf, cellsFrom, and_true, true_and, Nat.reduceAdd] at F
    by_cases hlt : j < N
    · have c0 := (S.below.cell (p := ⟨ba, oa + j, none⟩) hba).trans (HA.out j _ (ints_getD xs j (by rw [HL1.out]; exact hlt)))
      have ea := fil_set (mapV kd xs) N j
      have hx := getD_rv HX.out j
      have hz : fnAt kd (xs.getD j 0) = mapV kd xs j := rfl
      generalize mapV kd xs j = z at hz ea
      generalize xs.getD j 0 = x at c0 hz hx
      have HX0 := Lib.hid hx
      have HZ := Lib.hid hz
      have EA := Lib.hid ea
      clear ea hz hx
      go_upto_region 7 with fail
      have HL0 := HL; have F0 := F; refine wp_region_tree (S := fun w' => St w0 w' L) (qcs 0 5 (.act 5 (.calm 6 (.act 7 .fin .stop)) .stop)) (by kernel_rfl) (by kernel_rfl) (by kernel_rfl) (by intro c a d v w h; cases d <;> exact h) ?_; dsimp only [qcs, Nat.reduceAdd]; replace S := S.drew
      repeat (first | refine qCa ?_ | refine qAn ?_ | refine qSk ?_ | (refine tree_act rfl rfl ?_ tree_stop; intro K hK; (refine wp_store_row S _ _ _ rfl 1 _ _ _ _ _ _ _ (atOf HL rfl) rfl _ rfl (by kernel_rfl) rfl (by omega) ?_; clear F S; intro w L hM S; replace HL := qNm HL hM; clear hM; have F := qFc HL S); (refine qKo hK ?_; clear hK K)) | (refine tree_act rfl rfl ?_ tree_stop; intro K hK; go_wp2_with (first | (go_at_call 176; refine qPu (C_impl_FunctionAt _ _ _ _ HX0.out HK.out HZ.out) ?_)); (refine qKo hK ?_; clear hK K)))
      refine tree_fin ?_
      clear HL0 F0
      go_wp2
      go_roundw
      case rel =>
        rw [← ints_set, EA.out] at HL
        exact ⟨j + 1, L, by omega, by go_num, HL, S⟩
      case measure => simp [intOf]; omega
    · obtain rfl : j = N := by omega
      go_wp2_with (first | (refine qst HL S 2 ?_; clear F S HL; intro w L HL S F))
      ((try simp only [Exit.inBlock, Exit.then]); refine ret1 rfl (resCell S HL 2 rfl rfl (by kernel_rfl)) rfl ?_)
      refine ⟨_, rfl, ?_⟩
      rw [fil_full] at HL
      exact (by rw [HL.out] at S; exact S.sub (by repeat (first | exact .refl _ | exact List.nil_sublist _ | apply List.Sublist.cons_cons | apply List.Sublist.cons)))
end
section
theorem sumV_all (xs : List Int) (C n : Nat) : (tab n (sumV xs C)).all rv = true := tab_all fun q _ => rv_ro _
theorem turn_all' {R C : Nat} {xs : List Int} (h : xs.all rv = true) : (tab (C * R) (turnV R C xs)).all rv = true := tab_all fun q _ => getD_rv h _
theorem C_cutProduct (R C D : Nat) (xs ys zs : List Int) (u v : Value) (w0 : World) (h : Ints w0 u xs) (h' : Ints w0 v ys) (hz : cutV xs ys R C D = zs) (r1 : 1 ≤ R) (r2 : R ≤ 5) (c1 : 1 ≤ C) (c2 : C ≤ 5) (d1 : 1 ≤ D) (d2 : D ≤ 5) (hl : xs.length = R * C) (hl' : ys.length = C * D) (a1 : xs.all rv = true) (a2 : ys.all rv = true) :
    Calls Tryz.prog 222 #[.agg #[.int .i64 R, .int .i64 C, u], .agg #[.int .i64 C, .int .i64 D, v]] w0 (MakesMx w0 R D zs) := by
  have hzl : zs.length = R * D := by rw [← hz]; exact cutV_len _ _ _ _ _
  have CM := fun u v w h h' => C_impl_Mul R C D xs ys u v w h h' r1 r2 c1 c2 d1 d2 hl hl' a1 a2
  have CP := fun u w h => C_impl_Map 1 R D (tab (R * D) (mulAt xs ys C D)) u w h (.inl rfl) r1 r2 d1 d2 (tab_length _ _) (tab_all fun q _ => rv_ro _)
  unfold MakesMx at CM CP ⊢
  rw [tab_length] at CM CP
  rw [tab_length] at CP
  have HU := Lib.hid h
  have HV := Lib.hid h'
  obtain ⟨_, A1, k1, rfl, hk1, hm1, _⟩ := h
  obtain ⟨_, A2, k2, rfl, hk2, hm2, _⟩ := h'
  have HZ := Lib.hid hz
  have HZL := Lib.hid hzl
  clear hz hzl hl hl' a1 a2
  obtain ⟨N, hN⟩ : ∃ N, R * D = N := ⟨_, rfl⟩
  obtain ⟨ms, hms⟩ : ∃ ms, tab (R * D) (mulAt xs ys C D) = ms := ⟨_, rfl⟩
  have hml : ms.length = R * D := by rw [← hms]; exact tab_length _ _
  have hzs : tab (R * D) (mapV 1 ms) = zs := by rw [← hms]; exact HZ.out
  rw [hms] at CM CP
  rw [hzs] at CP
  rw [hN] at CM CP hml HZL
  have CP' := fun u w (h : Sees w 1 u N (ints ms)) => CP u w (by unfold Ints; rw [hml]; exact h)
  clear hms hzs HZ CP
  obtain ⟨L, HL, S⟩ := st_start w0; have F : True := trivial
  go_enter Tryz.func222, Tryz.ntmps222
  go_upto_region 1 with (first | (refine qbd 2 HL S ?_; clear F S HL; intro ga w L HL S F) | (refine qbd 3 HL S ?_; clear F S HL; intro gb w L HL S F) | (refine qal HL S zMx ?_; clear F S HL; intro gr w L HL S F))
  go_wp2_with (first | (go_at_call 175; refine (CM _ _ _ (HU.out.at_ S) (HV.out.at_ S)).mono ?_; rintro e w ⟨u, rfl, T0⟩; have hX := qcl HL S T0; clear F S HL T0; obtain ⟨L, HL, S, F⟩ := hX; obtain ⟨A', cap', rfl, hcap', hmax'⟩ := qSl HL S 0) | (go_at_call 223; refine (CP' _ _ (Sees.row S qAt)).mono ?_; rintro e w ⟨u, rfl, T0⟩; have hX := qcl HL S T0; clear F S HL T0; obtain ⟨L, HL, S, F⟩ := hX; obtain ⟨A', cap', rfl, hcap', hmax'⟩ := qSl HL S 0) | (refine qst HL S 2 ?_; clear F S HL; intro w L HL S F))
  ((try simp only [Exit.inBlock, Exit.then]); refine ret1 rfl (resCell S HL 2 rfl rfl (by kernel_rfl)) rfl ?_)
  rw [HZL.out]
  exact ⟨_, rfl, (by rw [HL.out] at S; exact S.sub (by repeat (first | exact .refl _ | exact List.nil_sublist _ | apply List.Sublist.cons_cons | apply List.Sublist.cons)))⟩
end
section
theorem SeesMs.three {w : World} {u : Value} {m0 m1 m2 : Mx} (h : SeesMs w u [m0, m1, m2]) : ∃ bl off cap u0 u1 u2, u = .slice (some ⟨bl, off, none⟩) 3 cap ∧ 3 ≤ cap ∧ cap ≤ maxLen ∧ bl < w.heap.size ∧
    (w.cell? ⟨bl, off, none⟩ = some (.int .i64 m0.r) ∧ w.cell? ⟨bl, off + 1, none⟩ = some (.int .i64 m0.c) ∧ w.cell? ⟨bl, off + 2, none⟩ = some u0 ∧ Ints w u0 m0.xs) ∧
    (w.cell? ⟨bl, off + 3, none⟩ = some (.int .i64 m1.r) ∧ w.cell? ⟨bl, off + 3 + 1, none⟩ = some (.int .i64 m1.c) ∧ w.cell? ⟨bl, off + 3 + 2, none⟩ = some u1 ∧ Ints w u1 m1.xs) ∧
    (w.cell? ⟨bl, off + 6, none⟩ = some (.int .i64 m2.r) ∧ w.cell? ⟨bl, off + 6 + 1, none⟩ = some (.int .i64 m2.c) ∧ w.cell? ⟨bl, off + 6 + 2, none⟩ = some u2 ∧ Ints w u2 m2.xs) := by
  obtain ⟨A, cap, rfl, hcap, hmax, hA⟩ := h
  obtain ⟨bl, off, rfl, hb, hc⟩ := hA (by simp)
  obtain ⟨u0, a1, a2, a3, hu⟩ := hc 0 _ rfl
  obtain ⟨u1, d1, d2, d3, hu'⟩ := hc 1 _ rfl
  obtain ⟨u2, e1, e2, e3, hu2⟩ := hc 2 _ rfl
  rw [Nat.zero_mul, Nat.add_zero] at a1 a2 a3
  rw [Nat.one_mul] at d1 d2 d3
  exact ⟨bl, off, cap, u0, u1, u2, rfl, hcap, hmax, hb, ⟨a1, a2, a3, hu⟩, ⟨d1, d2, d3, hu'⟩, ⟨e1, e2, e3, hu2⟩⟩
theorem C_mulR' (a b q : Int) (w0 : World) (h : mulR a b = q) : Calls Tryz.prog 195 #[.int .i64 a, .int .i64 b] w0 fun e w' => e = .returned (.int .i64 q) ∧ w0 = w' := h ▸ C_impl_MulRing a b w0
def CutP (w0 : World) (R C D : Nat) (n m : Nat) (xs ys zs : List Int) : Prop := ∀ u v w, Below w0.heap.size w0 w → Sees w 1 u n (ints xs) → Sees w 1 v m (ints ys) → Calls Tryz.prog 222 #[.agg #[.int .i64 R, .int .i64 C, u], .agg #[.int .i64 C, .int .i64 D, v]] w fun e w' => ∃ u', e = .returned (.agg #[.int .i64 R, .int .i64 D, u']) ∧ St w w' [.row 3 1 u' (R * D) (ints zs)]
theorem cutP (w0 : World) {R C D n m : Nat} {xs ys zs : List Int} (hz : cutV xs ys R C D = zs) (r1 : 1 ≤ R) (r2 : R ≤ 5) (c1 : 1 ≤ C) (c2 : C ≤ 5) (d1 : 1 ≤ D) (d2 : D ≤ 5) (hl : xs.length = R * C) (hl' : ys.length = C * D) (hn : n = R * C) (hm : m = C * D) (a1 : xs.all rv = true) (a2 : ys.all rv = true) : CutP w0 R C D n m xs ys zs := by
  intro u v w _ h h'
  have hzl : zs.length = R * D := by rw [← hz]; exact cutV_len _ _ _ _ _
  have := C_cutProduct R C D xs ys zs u v w (by unfold Ints; rw [hl, ← hn]; exact h) (by unfold Ints; rw [hl', ← hm]; exact h') hz r1 r2 c1 c2 d1 d2 hl hl' a1 a2
  unfold MakesMx at this
  rw [hzl] at this
  exact this
theorem C_mixRun (X Y : Nat) (a b c xs zs : List Int) (u v : Value) (wb w0 : World) (hbw : Below wb.heap.size wb w0) (h : SeesMs wb u [⟨Y, Y, a⟩, ⟨Y, Y, b⟩, ⟨Y, Y, c⟩]) (hx : Ints w0 v xs) (x1 : 1 ≤ X) (x2 : X ≤ 5) (y1 : 1 ≤ Y) (y2 : Y ≤ 5)
    (la : a.length = Y * Y) (lb : b.length = Y * Y) (lc : c.length = Y * Y) (lx : xs.length = X * Y) (aa : a.all rv = true) (ab : b.all rv = true) (ac : c.all rv = true) (ax : xs.all rv = true) (hz : mixL a b c xs X Y = zs) :
    Calls Tryz.prog 228 #[.agg #[u], .agg #[.int .i64 X, .int .i64 Y, v]] w0 (MakesMx w0 X Y zs) := by
  have hzl : zs.length = X * Y := by rw [← hz]; exact cutV_len _ _ _ _ _
  unfold MakesMx
  rw [hzl]
  obtain ⟨bl, off, cap, u0, u1, u2, rfl, hcap, hmax, hbl0, ⟨p1, p2, p3, hu0⟩, ⟨p4, p5, p6, hu1⟩, ⟨p7, p8, p9, hu2⟩⟩ := h.three
  dsimp only at p1 p2 p3 p4 p5 p6 p7 p8 p9 hu0 hu1 hu2
  have hbl := Nat.lt_of_lt_of_le hbl0 hbw.size
  replace p1 := (hbw.cell (p := ⟨bl, off, none⟩) hbl0).trans p1
  replace p2 := (hbw.cell (p := ⟨bl, off + 1, none⟩) hbl0).trans p2
  replace p3 := (hbw.cell (p := ⟨bl, off + 2, none⟩) hbl0).trans p3
  replace p4 := (hbw.cell (p := ⟨bl, off + 3, none⟩) hbl0).trans p4
  replace p5 := (hbw.cell (p := ⟨bl, off + 3 + 1, none⟩) hbl0).trans p5
  replace p6 := (hbw.cell (p := ⟨bl, off + 3 + 2, none⟩) hbl0).trans p6
  replace p7 := (hbw.cell (p := ⟨bl, off + 6, none⟩) hbl0).trans p7
  replace p8 := (hbw.cell (p := ⟨bl, off + 6 + 1, none⟩) hbl0).trans p8
  replace p9 := (hbw.cell (p := ⟨bl, off + 6 + 2, none⟩) hbl0).trans p9
  have HA := Lib.hid (Sees.below hu0 hbw)
  have HB := Lib.hid (Sees.below hu1 hbw)
  have HC := Lib.hid (Sees.below hu2 hbw)
  have HX := Lib.hid hx
  obtain ⟨_, A0, cap0, rfl, hcap0, hmax0, _⟩ := hu0
  obtain ⟨_, A1, cap1, rfl, hcap1, hmax1, _⟩ := hu1
  obtain ⟨_, A2, cap2, rfl, hcap2, hmax2, _⟩ := hu2
  obtain ⟨_, A3, cap3, rfl, hcap3, hmax3, _⟩ := hx
  obtain ⟨qs, hq⟩ : ∃ qs, cutV xs a X Y Y = qs := ⟨_, rfl⟩
  obtain ⟨ks, hk⟩ : ∃ ks, cutV xs b X Y Y = ks := ⟨_, rfl⟩
  obtain ⟨vs, hv⟩ : ∃ vs, cutV xs c X Y Y = vs := ⟨_, rfl⟩
  have lq : qs.length = X * Y := by rw [← hq]; exact cutV_len _ _ _ _ _
  have lk : ks.length = X * Y := by rw [← hk]; exact cutV_len _ _ _ _ _
  have lv : vs.length = X * Y := by rw [← hv]; exact cutV_len _ _ _ _ _
  have aq : qs.all rv = true := by rw [← hq]; exact cutV_all _ _ _ _ _
  have ak : ks.all rv = true := by rw [← hk]; exact cutV_all _ _ _ _ _
  have av : vs.all rv = true := by rw [← hv]; exact cutV_all _ _ _ _ _
  obtain ⟨ts, ht⟩ : ∃ ts, tab (Y * X) (turnV X Y ks) = ts := ⟨_, rfl⟩
  have lt : ts.length = Y * X := by rw [← ht]; exact tab_length _ _
  have at' : ts.all rv = true := by rw [← ht]; exact turn_all' ak
  obtain ⟨ss, hs⟩ : ∃ ss, cutV qs ts X Y X = ss := ⟨_, rfl⟩
  have ls : ss.length = X * X := by rw [← hs]; exact cutV_len _ _ _ _ _
  have ass : ss.all rv = true := by rw [← hs]; exact cutV_all _ _ _ _ _
  obtain ⟨gs, hg⟩ : ∃ gs, mapL 4 ss = gs := ⟨_, rfl⟩
  have lg : gs.length = X * X := by rw [← hg, mapL_len, ls]
  have ag : gs.all rv = true := by rw [← hg]; exact mapL_all ass
  obtain ⟨ms, hm⟩ : ∃ ms, tab X (sumV gs X) = ms := ⟨_, rfl⟩
  have lm : ms.length = X := by rw [← hm]; exact tab_length _ _
  have am : ms.all rv = true := by rw [← hm]; exact sumV_all _ _ _
  obtain ⟨bs, hb⟩ : ∃ bs, mapL 5 ms = bs := ⟨_, rfl⟩
  have lbs : bs.length = X := by rw [← hb, mapL_len, lm]
  have abs' : bs.all rv = true := by rw [← hb]; exact mapL_all am
  obtain ⟨hs', hh⟩ : ∃ hs', tab (X * X) (mixV gs bs X) = hs' := ⟨_, rfl⟩
  have lh : hs'.length = X * X := by rw [← hh]; exact tab_length _ _
  have ah : hs'.all rv = true := by
    rw [← hh]
    refine tab_all fun q _ => ?_
    unfold mixV
    rw [cutR_eq (mulR_rvM (getD_rv ag _) (getD_rv abs' _))]
    exact rv_ro _
  have hz' : cutV hs' vs X X Y = zs := by
    rw [← hz]
    unfold mixL
    rw [hq, hk, hv, ht, hs, hg, hm, hb, hh]
  have C0 := cutP w0 (n := xs.length) (m := a.length) hq x1 x2 y1 y2 y1 y2 lx la lx la ax aa
  have C1 := cutP w0 (n := xs.length) (m := b.length) hk x1 x2 y1 y2 y1 y2 lx lb lx lb ax ab
  have C2 := cutP w0 (n := xs.length) (m := c.length) hv x1 x2 y1 y2 y1 y2 lx lc lx lc ax ac
  have C3 := cutP w0 (n := X * Y) (m := Y * X) hs x1 x2 y1 y2 x1 x2 lq lt rfl rfl aq at'
  have C4 := cutP w0 (n := X * X) (m := X * Y) hz' x1 x2 x1 x2 y1 y2 lh lv rfl rfl ah av
  have CT : ∀ u w, Sees w 1 u (X * Y) (ints ks) → Calls Tryz.prog 101 #[.agg #[.int .i64 X, .int .i64 Y, u]] w fun e w' => ∃ u', e = .returned (.agg #[.int .i64 Y, .int .i64 X, u']) ∧ St w w' [.row 3 1 u' (Y * X) (ints ts)] := fun u w h => by
    have := C_impl_TurnMatrix X Y ks u ⟨Y, X, ts⟩ w (by unfold Ints; rw [lk]; exact h) (by rw [turnMx_ok (Mx.ok_of x1 x2 y1 y2 lk ak), ht])
    unfold MakesMx at this
    dsimp only at this
    rw [lt] at this
    exact this
  have CG : ∀ u w, Sees w 1 u (X * X) (ints ss) → Calls Tryz.prog 223 #[.int .i64 4, .agg #[.int .i64 X, .int .i64 X, u]] w fun e w' => ∃ u', e = .returned (.agg #[.int .i64 X, .int .i64 X, u']) ∧ St w w' [.row 3 1 u' (X * X) (ints gs)] := fun u w h => by
    have := C_impl_Map 4 X X ss u w (by unfold Ints; rw [ls]; exact h) (by omega) x1 x2 x1 x2 ls ass
    unfold MakesMx at this
    rw [show tab ss.length (mapV 4 ss) = gs from hg, lg] at this
    exact this
  have CS : ∀ u w, Sees w 1 u (X * X) (ints gs) → Calls Tryz.prog 57 #[.agg #[.int .i64 X, .int .i64 X, u]] w fun e w' => ∃ u', e = .returned (.agg #[.int .i64 X, .int .i64 1, u']) ∧ St w w' [.row 3 1 u' X (ints ms)] := fun u w h => by
    have := C_impl_RowSums X X gs u w (by unfold Ints; rw [lg]; exact h) x1 x2 x1 x2 lg ag
    unfold MakesMx at this
    rw [hm, lm] at this
    exact this
  have CB : ∀ u w, Sees w 1 u X (ints ms) → Calls Tryz.prog 223 #[.int .i64 5, .agg #[.int .i64 X, .int .i64 1, u]] w fun e w' => ∃ u', e = .returned (.agg #[.int .i64 X, .int .i64 1, u']) ∧ St w w' [.row 3 1 u' X (ints bs)] := fun u w h => by
    have := C_impl_Map 5 X 1 ms u w (by unfold Ints; rw [lm]; exact h) (by omega) x1 x2 (by omega) (by omega) (by rw [lm, Nat.mul_one]) am
    unfold MakesMx at this
    rw [show tab ms.length (mapV 5 ms) = bs from hb, lbs] at this
    exact this
  have CE : ∀ w, Calls Tryz.prog 103 #[.int .i64 X, .int .i64 X] w fun e w' => ∃ u', e = .returned (.agg #[.int .i64 X, .int .i64 X, u']) ∧ St w w' [.row 3 1 u' (X * X) (ints (tab (X * X) fun _ => 0))] := fun w => by
    have hX : X * X ≤ 25 := by
      have : X * X ≤ 5 * 5 := Nat.mul_le_mul x2 x2
      omega
    have := C_emptyMatrix X X (X * X) w rfl hX
    unfold MakesMx at this
    rw [tab_length] at this
    exact this
  obtain ⟨N, hN⟩ : ∃ N, X * X = N := ⟨_, rfl⟩
  obtain ⟨K, hK⟩ : ∃ K, X * Y = K := ⟨_, rfl⟩
  obtain ⟨K', hK'⟩ : ∃ K, Y * X = K := ⟨_, rfl⟩
  have hN1 : N ≤ 25 := by
    have : X * X ≤ 5 * 5 := Nat.mul_le_mul x2 x2
    omega
  have hN0 : 0 < N := by rw [← hN]; exact Nat.mul_pos x1 x1
  unfold CutP at C0 C1 C2 C3 C4
  rw [hN] at C3 C4 CG CS CE hh lg
  rw [hK] at C0 C1 C2 C3 C4 CT ⊢
  rw [hK'] at C3 CT
  have HAG := Lib.hid ag
  have HABS := Lib.hid abs'
  have HH := Lib.hid hh
  have HLG := Lib.hid lg
  have HLBS := Lib.hid lbs
  have HN := Lib.hid hN
  clear hq hk hv ht hs hg hm hb hh hz hz' lq lk lv lt ls lg lm lbs lh aq ak av at' ass ag am abs' ah hN hK hK' la lb lc lx aa ab ac ax h hzl
  obtain ⟨L, HL, S⟩ := st_start w0; have F : True := trivial
  go_enter Tryz.func228, Tryz.ntmps228
  go_upto_region 1 with (first | (refine qbd 2 HL S ?_; clear F S HL; intro gl w L HL S F) | (refine qbd 3 HL S ?_; clear F S HL; intro gx w L HL S F) | (refine qal HL S zMx ?_; clear F S HL; intro gr w L HL S F))
  (try simp only [Act.put, qP0, qP1, qP2])
  go_cut [5] (fun v w => ∃ (g : Nat) (A : Option Addr) (cap : Nat), v = .pointer (some ⟨g, 0, none⟩) ∧ K ≤ cap ∧ cap ≤ maxLen ∧ St w0 w (.box g 30 [.int .i64 X, .int .i64 Y, .slice A K cap] :: .row 3 1 (.slice A K cap) K (ints qs) :: L))
  case first =>
    have f1 := fun w' (S' : St w0 w' L) => (S'.below.cell (p := ⟨bl, off, none⟩) hbl).trans p1
    have f2 := fun w' (S' : St w0 w' L) => (S'.below.cell (p := ⟨bl, off + 1, none⟩) hbl).trans p2
    have f3 := fun w' (S' : St w0 w' L) => (S'.below.cell (p := ⟨bl, off + 2, none⟩) hbl).trans p3
    have HL0 := HL; have F0 := F; refine wp_region_tree (S := fun w' => St w0 w' L) (qcs 0 5 (.act 5 (.act 6 (.act 7 .fin .stop) .stop) (.act 6 (.act 5 (.act 7 .fin .stop) .stop) .stop))) (by kernel_rfl) (by kernel_rfl) (by kernel_rfl) (by intro c a d v w h; cases d <;> exact h) ?_; dsimp only [qcs, Nat.reduceAdd]; replace S := S.drew
    repeat' (first | refine qCa ?_ | refine qAn ?_ | refine qSk ?_ | exact tree_stop | (refine tree_act rfl rfl ?_ ?_) | (intro K hK; (refine qaw HL S zMx ?_; clear F S HL; intro g w L HL S F); (refine qKo hK ?_; clear hK K)) | (intro K hK; (refine qsw HL S 0 ?_; clear F S HL; intro w L HL S F); (refine qKo hK ?_; clear hK K)) | (intro K hK; (refine qsw HL S 1 ?_; clear F S HL; intro w L HL S F); (refine qKo hK ?_; clear hK K)) | (intro K hK; go_wp2_with (first | (go_at_call 222; refine (C0 _ _ _ S.below (HX.out.at_ S) (HA.out.at_ S)).mono ?_; rintro e w ⟨u, rfl, T0⟩; have hX := qcl HL S T0; clear F S HL T0; obtain ⟨L, HL, S, F⟩ := hX; obtain ⟨A', cap', rfl, hcap', hmax'⟩ := qSl HL S 0)); (refine qKo hK ?_; clear hK K)))
    all_goals
      refine tree_fin ?_
      go_wp2_with fail
      go_meet
      refine ⟨_, A', cap', rfl, hcap', hmax', ?_⟩
      rw [HL0.out]
      first
        | (rw [HL.out] at S; exact S)
        | (rw [HL.out] at S; exact S.perm (.swap _ _ _))
  case rest =>
  obtain ⟨gq, Agq, capgq, rfl, hcapgq, hmaxgq, T0⟩ := hcut
  obtain ⟨L, hM, T⟩ := st_name T0
  clear T0
  clear F S; replace HL := qNm HL hM; clear hM; have S := T; clear T; have F := qFc HL S
  go_upto_region 2 with fail
  (try simp only [Act.put, qP0, qP1, qP2])
  go_cut [6] (fun v w => ∃ (g : Nat) (A : Option Addr) (cap : Nat), v = .pointer (some ⟨g, 0, none⟩) ∧ K ≤ cap ∧ cap ≤ maxLen ∧ St w0 w (.box g 30 [.int .i64 X, .int .i64 Y, .slice A K cap] :: .row 3 1 (.slice A K cap) K (ints ks) :: L))
  case first =>
    have f4 := fun w' (S' : St w0 w' L) => (S'.below.cell (p := ⟨bl, off + 3, none⟩) hbl).trans p4
    have f5 := fun w' (S' : St w0 w' L) => (S'.below.cell (p := ⟨bl, off + 3 + 1, none⟩) hbl).trans p5
    have f6 := fun w' (S' : St w0 w' L) => (S'.below.cell (p := ⟨bl, off + 3 + 2, none⟩) hbl).trans p6
    have HL0 := HL; have F0 := F; refine wp_region_tree (S := fun w' => St w0 w' L) (qcs 0 5 (.act 5 (.act 6 (.act 7 .fin .stop) .stop) (.act 6 (.act 5 (.act 7 .fin .stop) .stop) .stop))) (by kernel_rfl) (by kernel_rfl) (by kernel_rfl) (by intro c a d v w h; cases d <;> exact h) ?_; dsimp only [qcs, Nat.reduceAdd]; replace S := S.drew
    repeat' (first | refine qCa ?_ | refine qAn ?_ | refine qSk ?_ | exact tree_stop | (refine tree_act rfl rfl ?_ ?_) | (intro K hK; (refine qaw HL S zMx ?_; clear F S HL; intro g w L HL S F); (refine qKo hK ?_; clear hK K)) | (intro K hK; (refine qsw HL S 0 ?_; clear F S HL; intro w L HL S F); (refine qKo hK ?_; clear hK K)) | (intro K hK; (refine qsw HL S 1 ?_; clear F S HL; intro w L HL S F); (refine qKo hK ?_; clear hK K)) | (intro K hK; go_wp2_with (first | (go_at_call 222; refine (C1 _ _ _ S.below (HX.out.at_ S) (HB.out.at_ S)).mono ?_; rintro e w ⟨u, rfl, T0⟩; have hX := qcl HL S T0; clear F S HL T0; obtain ⟨L, HL, S, F⟩ := hX; obtain ⟨A', cap', rfl, hcap', hmax'⟩ := qSl HL S 0)); (refine qKo hK ?_; clear hK K)))
    all_goals
      refine tree_fin ?_
      go_wp2_with fail
      go_meet
      refine ⟨_, A', cap', rfl, hcap', hmax', ?_⟩
      rw [HL0.out]
      first
        | (rw [HL.out] at S; exact S)
        | (rw [HL.out] at S; exact S.perm (.swap _ _ _))
  case rest =>
  obtain ⟨gk, Agk, capgk, rfl, hcapgk, hmaxgk, T0⟩ := hcut
  obtain ⟨L, hM, T⟩ := st_name T0
  clear T0
  clear F S; replace HL := qNm HL hM; clear hM; have S := T; clear T; have F := qFc HL S
  go_upto_region 3 with fail
  (try simp only [Act.put, qP0, qP1, qP2])
  go_cut [7] (fun v w => ∃ (g : Nat) (A : Option Addr) (cap : Nat), v = .pointer (some ⟨g, 0, none⟩) ∧ K ≤ cap ∧ cap ≤ maxLen ∧ St w0 w (.box g 30 [.int .i64 X, .int .i64 Y, .slice A K cap] :: .row 3 1 (.slice A K cap) K (ints vs) :: L))
  case first =>
    have f7 := fun w' (S' : St w0 w' L) => (S'.below.cell (p := ⟨bl, off + 6, none⟩) hbl).trans p7
    have f8 := fun w' (S' : St w0 w' L) => (S'.below.cell (p := ⟨bl, off + 6 + 1, none⟩) hbl).trans p8
    have f9 := fun w' (S' : St w0 w' L) => (S'.below.cell (p := ⟨bl, off + 6 + 2, none⟩) hbl).trans p9
    have HL0 := HL; have F0 := F; refine wp_region_tree (S := fun w' => St w0 w' L) (qcs 0 5 (.act 5 (.act 6 (.act 7 .fin .stop) .stop) (.act 6 (.act 5 (.act 7 .fin .stop) .stop) .stop))) (by kernel_rfl) (by kernel_rfl) (by kernel_rfl) (by intro c a d v w h; cases d <;> exact h) ?_; dsimp only [qcs, Nat.reduceAdd]; replace S := S.drew
    repeat' (first | refine qCa ?_ | refine qAn ?_ | refine qSk ?_ | exact tree_stop | (refine tree_act rfl rfl ?_ ?_) | (intro K hK; (refine qaw HL S zMx ?_; clear F S HL; intro g w L HL S F); (refine qKo hK ?_; clear hK K)) | (intro K hK; (refine qsw HL S 0 ?_; clear F S HL; intro w L HL S F); (refine qKo hK ?_; clear hK K)) | (intro K hK; (refine qsw HL S 1 ?_; clear F S HL; intro w L HL S F); (refine qKo hK ?_; clear hK K)) | (intro K hK; go_wp2_with (first | (go_at_call 222; refine (C2 _ _ _ S.below (HX.out.at_ S) (HC.out.at_ S)).mono ?_; rintro e w ⟨u, rfl, T0⟩; have hX := qcl HL S T0; clear F S HL T0; obtain ⟨L, HL, S, F⟩ := hX; obtain ⟨A', cap', rfl, hcap', hmax'⟩ := qSl HL S 0)); (refine qKo hK ?_; clear hK K)))
    all_goals
      refine tree_fin ?_
      go_wp2_with fail
      go_meet
      refine ⟨_, A', cap', rfl, hcap', hmax', ?_⟩
      rw [HL0.out]
      first
        | (rw [HL.out] at S; exact S)
        | (rw [HL.out] at S; exact S.perm (.swap _ _ _))
  case rest =>
  obtain ⟨gv, Agv, capgv, rfl, hcapgv, hmaxgv, T0⟩ := hcut
  obtain ⟨L, hM, T⟩ := st_name T0
  clear T0
  clear F S; replace HL := qNm HL hM; clear hM; have S := T; clear T; have F := qFc HL S
  go_upto_region 4 with fail
  (try simp only [Act.put, qP0, qP1, qP2])
  go_cut [8] (fun v w => ∃ (g : Nat) (A : Option Addr) (cap : Nat), v = .pointer (some ⟨g, 0, none⟩) ∧ N ≤ cap ∧ cap ≤ maxLen ∧ St w0 w (.box g 30 [.int .i64 X, .int .i64 X, .slice A N cap] :: .row 3 1 (.slice A N cap) N (ints gs) :: L))
  case first =>
    have HL0 := HL; have F0 := F; refine wp_region_tree (S := fun w' => St w0 w' L) (.calm 0 (.calm 1 (.act 2 (.act 3 (.act 4 (.act 5 (.act 6 .fin .stop) .stop) (.act 5 (.act 4 (.act 6 .fin .stop) .stop) .stop)) (.act 5 (.act 3 (.act 4 (.act 6 .fin .stop) .stop) .stop) .stop)) (.act 5 (.act 2 (.act 3 (.act 4 (.act 6 .fin .stop) .stop) .stop) .stop) .stop)))) (by kernel_rfl) (by kernel_rfl) (by kernel_rfl) (by intro c a d v w h; cases d <;> exact h) ?_; replace S := S.drew
    repeat' (first | refine qCa ?_ | refine qAn ?_ | refine qSk ?_ | exact tree_stop | (refine tree_act rfl rfl ?_ ?_) | (intro K hK; (refine qaw HL S zMx ?_; clear F S HL; intro g w L HL S F); (refine qKo hK ?_; clear hK K)) | (intro K hK; (refine qsw HL S 0 ?_; clear F S HL; intro w L HL S F); (refine qKo hK ?_; clear hK K)) | (intro K hK; (refine qsw HL S 1 ?_; clear F S HL; intro w L HL S F); (refine qKo hK ?_; clear hK K)) | (intro K hK; (refine qsw HL S 2 ?_; clear F S HL; intro w L HL S F); (refine qKo hK ?_; clear hK K)) | (intro K hK; (refine qsw HL S 3 ?_; clear F S HL; intro w L HL S F); (refine qKo hK ?_; clear hK K)) | (intro K hK; go_wp2_with (first | (go_at_call 101; refine (CT _ _ (Sees.row S qAt)).mono ?_; rintro e w ⟨u, rfl, T0⟩; have hX := qcl HL S T0; clear F S HL T0; obtain ⟨L, HL, S, F⟩ := hX; obtain ⟨A', cap', rfl, hcap', hmax'⟩ := qSl HL S 0) | (go_at_call 222; refine (C3 _ _ _ S.below (Sees.row S qAt) (Sees.row S qAt)).mono ?_; rintro e w ⟨u, rfl, T0⟩; have hX := qcl HL S T0; clear F S HL T0; obtain ⟨L, HL, S, F⟩ := hX; obtain ⟨A', cap', rfl, hcap', hmax'⟩ := qSl HL S 0) | (go_at_call 223; refine (CG _ _ (Sees.row S qAt)).mono ?_; rintro e w ⟨u, rfl, T0⟩; have hX := qcl HL S T0; clear F S HL T0; obtain ⟨L, HL, S, F⟩ := hX; obtain ⟨A', cap', rfl, hcap', hmax'⟩ := qSl HL S 0)); (refine qKo hK ?_; clear hK K)))
    all_goals
      refine tree_fin ?_
      go_wp2_with fail
      go_meet
      refine ⟨_, A', cap', rfl, hcap', hmax', ?_⟩
      rw [HL0.out]
      first
        | ((have T := S.front (atOf HL (p := 0) rfl); rw [HL.out] at T; simp only [List.eraseIdx_cons_succ, List.eraseIdx_cons_zero] at T); exact T.sub (.cons_cons _ (.cons_cons _ (.cons _ (.cons _ (.refl _))))))
        | ((have T := S.front (atOf HL (p := 1) rfl); rw [HL.out] at T; simp only [List.eraseIdx_cons_succ, List.eraseIdx_cons_zero] at T); exact T.sub (.cons_cons _ (.cons_cons _ (.cons _ (.cons _ (.refl _))))))
        | ((have T := S.front (atOf HL (p := 2) rfl); rw [HL.out] at T; simp only [List.eraseIdx_cons_succ, List.eraseIdx_cons_zero] at T); exact T.sub (.cons_cons _ (.cons_cons _ (.cons _ (.cons _ (.refl _))))))
        | ((have T := S.front (atOf HL (p := 3) rfl); rw [HL.out] at T; simp only [List.eraseIdx_cons_succ, List.eraseIdx_cons_zero] at T); exact T.sub (.cons_cons _ (.cons_cons _ (.cons _ (.cons _ (.refl _))))))
  case rest =>
  obtain ⟨gg, Ag, capg, rfl, hcapg, hmaxg, T0⟩ := hcut
  obtain ⟨L, hM, T⟩ := st_name T0
  clear T0
  clear F S; replace HL := qNm HL hM; clear hM; have S := T; clear T; have F := qFc HL S
  go_upto_region 6 with (first | (refine qal HL S zMx ?_; clear F S HL; intro gb1 w L HL S F) | (refine qst HL S 0 ?_; clear F S HL; intro w L HL S F) | (go_at_call 57; refine (CS _ _ (Sees.row S qAt)).mono ?_; rintro e w ⟨u, rfl, T0⟩; have hX := qcl HL S T0; clear F S HL T0; obtain ⟨L, HL, S, F⟩ := hX; obtain ⟨A', cap', rfl, hcap', hmax'⟩ := qSl HL S 0) | (go_at_call 223; refine (CB _ _ (Sees.row S qAt)).mono ?_; rintro e w ⟨u, rfl, T0⟩; have hX := qcl HL S T0; clear F S HL T0; obtain ⟨L, HL, S, F⟩ := hX; obtain ⟨A', cap', rfl, hcap', hmax'⟩ := qSl HL S 0))
  obtain ⟨Ab, hAb⟩ : ∃ x, x = A' := ⟨_, rfl⟩
  obtain ⟨capb, hcapb⟩ : ∃ x, x = cap' := ⟨_, rfl⟩
  subst hAb hcapb
  go_upto_region 8 with (first | (refine qal HL S zMx ?_; clear F S HL; intro gb w L HL S F) | (refine qst HL S 0 ?_; clear F S HL; intro w L HL S F) | (go_at_call 103; refine (CE _).mono ?_; rintro e w ⟨u, rfl, T0⟩; have hX := qcl HL S T0; clear F S HL T0; obtain ⟨L, HL, S, F⟩ := hX; obtain ⟨A', cap', rfl, hcap', hmax'⟩ := qSl HL S 0))
  obtain ⟨gn, cn, ev, hcn, hmn⟩ := S.rowAt (p := 1) (atOf HL rfl) hN0
  obtain ⟨rfl, rfl⟩ : A' = some ⟨gn, 0, none⟩ ∧ cap' = cn := by injection ev with e1 _ e3; exact ⟨e1, e3⟩
  clear ev
  obtain ⟨ab, cn, ev, hcn2, hmn2⟩ := S.rowAt (p := 3) (atOf HL rfl) x1
  obtain ⟨rfl, rfl⟩ : Ab = some ⟨ab, 0, none⟩ ∧ capb = cn := by injection ev with e1 _ e3; exact ⟨e1, e3⟩
  clear ev
  obtain ⟨ag, cn, ev, hcn3, hmn3⟩ := S.rowAt (p := 6) (atOf HL rfl) hN0
  obtain ⟨rfl, rfl⟩ : Ag = some ⟨ag, 0, none⟩ ∧ capg = cn := by injection ev with e1 _ e3; exact ⟨e1, e3⟩
  clear ev C0 C1 C2 C3 CT CG CS CB CE F
  have F : True := trivial
  go_loopw [47] (fun i wr => ∃ (k : Nat) (L : List Ent), k ≤ N ∧ i = .int .i64 k ∧ Hid (L = [.box gb 30 [.int .i64 X, .int .i64 X, .slice (some ⟨gn, 0, none⟩) N cap'], .row 3 1 (.slice (some ⟨gn, 0, none⟩) N cap') N (ints (tab N fun q => if q < k then mixV gs bs X q else 0)), .box gb1 30 [.int .i64 X, .int .i64 1, .slice (some ⟨ab, 0, none⟩) X capb], .row 3 1 (.slice (some ⟨ab, 0, none⟩) X capb) X (ints bs), .box gg 30 [.int .i64 X, .int .i64 X, .slice (some ⟨ag, 0, none⟩) N capg], .row 3 1 (.slice (some ⟨ag, 0, none⟩) N capg) N (ints gs), .box gv 30 [.int .i64 X, .int .i64 Y, .slice Agv K capgv], .row 3 1 (.slice Agv K capgv) K (ints vs), .box gr 30 [.int .i64 0, .int .i64 0, .slice none 0 0]]) ∧ St w0 wr L) (fun i _ => N - (intOf i).toNat)
  case atStart => exact ⟨0, _, Nat.zero_le _, rfl, Lib.hid rfl, by rw [fil_zero]; rw [HL.out] at S; exact S.sub (by repeat (first | exact .refl _ | exact List.nil_sublist _ | apply List.Sublist.cons_cons | apply List.Sublist.cons))⟩
  case round =>
    clear F HL S
    obtain ⟨k, L, hk, rfl, HL, S⟩ := hrel
    have F := factsAll HL S
    simp only [factsOf, cellsFrom, and_true, true_and, Nat.reduceAdd] at F
    by_cases hlt : k < N
    · have c0 := (S.rowCell (p := 5) (atOf HL rfl) k (by omega)).trans (ints_getD gs k (by rw [HLG.out]; exact hlt))
      obtain ⟨q, hq⟩ : ∃ q, k / X = q := ⟨_, rfl⟩
      have hqX : q < X := by rw [← hq]; exact Nat.div_lt_of_lt_mul (by rw [HN.out]; exact hlt)
      have et : (k : Int).tdiv (X : Int) = (q : Int) := by rw [Int.tdiv_eq_ediv_of_nonneg (by omega), ← hq]; rfl
      have hne : ((X : Int) == 0) = false := by rw [beq_eq_false_iff_ne]; omega
      have hne' : ¬ ((X : Int) = 0) := by omega
      have hne3 : ¬ X = 0 := by omega
      have ew : IntKind.i64.wrap (q : Int) = (q : Int) := wrap_nat rfl (by omega)
      have B0 := Lib.hid (ints_getD bs q (by rw [HLBS.out]; exact hqX))
      have ea := fil_set (mixV gs bs X) N k
      have hx := getD_rv HAG.out k
      have hy := getD_rv HABS.out q
      have hz : cutR (mulR (gs.getD k 0) (bs.getD q 0)) = mixV gs bs X k := by rw [← hq]; rfl
      generalize gs.getD k 0 = x at *
      generalize bs.getD q 0 = y at *
      generalize mixV gs bs X k = z at hz ea
      have hm := mulR_rvM hx hy
      obtain ⟨t, ht⟩ : ∃ t, mulR x y = t := ⟨_, rfl⟩
      rw [ht] at hz hm
      have HT := Lib.hid ht
      have HZ := Lib.hid hz
      have HM := Lib.hid hm
      have EA := Lib.hid ea
      clear ea hz hm ht hx hy hq
      go_upto_region 10 with fail
      have d0 := fun w' (S' : St w0 w' L) => (S'.rowCell (p := 3) (atOf HL rfl) q (by omega)).trans B0.out
      have HL0 := HL; have F0 := F; refine wp_region_tree (S := fun w' => St w0 w' L) (qcs 0 12 (.act 12 (.act 13 (.calm 14 (.act 15 .fin .stop)) .stop) .stop)) (by kernel_rfl) (by kernel_rfl) (by kernel_rfl) (by intro c a d v w h; cases d <;> exact h) ?_; dsimp only [qcs, Nat.reduceAdd]; replace S := S.drew
      repeat (first | refine qCa ?_ | refine qAn ?_ | refine qSk ?_ | (refine tree_act rfl rfl ?_ tree_stop; intro K hK; (refine wp_store_row S _ _ _ rfl 1 _ _ _ _ _ _ _ (atOf HL rfl) rfl _ rfl (by kernel_rfl) rfl (by omega) ?_; clear F S; intro w L hM S; replace HL := qNm HL hM; clear hM; have F := qFc HL S); (refine qKo hK ?_; clear hK K)) | (refine tree_act rfl rfl ?_ tree_stop; intro K hK; go_wp2_with (first | (go_at_call 195; refine qPu (C_mulR' _ _ _ _ HT.out) ?_) | (go_at_call 193; refine qPu (C_impl_CutRing _ _ _ HM.out HZ.out) ?_)); (refine qKo hK ?_; clear hK K)))
      refine tree_fin ?_
      clear HL0 F0 d0
      go_wp2
      go_roundw
      case rel =>
        rw [← ints_set, EA.out] at HL
        exact ⟨k + 1, L, by omega, by go_num, HL, S⟩
      case measure => simp [intOf]; omega
    · obtain rfl : k = N := by omega
      rw [fil_full, HH.out] at HL
      go_wp2_with (first | (refine qst HL S 9 ?_; clear F S HL; intro w L HL S F) | (refine qst HL S 10 ?_; clear F S HL; intro w L HL S F) | (go_at_call 222; refine (C4 _ _ _ S.below (Sees.row S qAt) (Sees.row S qAt)).mono ?_; rintro e w ⟨u, rfl, T0⟩; have hX := qcl HL S T0; clear F S HL T0; obtain ⟨L, HL, S, F⟩ := hX; obtain ⟨A', cap', rfl, hcap', hmax'⟩ := qSl HL S 0))
      ((try simp only [Exit.inBlock, Exit.then]); refine ret1 rfl (resCell S HL 9 rfl rfl (by kernel_rfl)) rfl ?_)
      exact ⟨_, rfl, (by rw [HL.out] at S; exact S.sub (by repeat (first | exact .refl _ | exact List.nil_sublist _ | apply List.Sublist.cons_cons | apply List.Sublist.cons)))⟩
end
section
theorem m_runMix (A : Option Addr) (n cap : Nat) (w : World) : (method 323 154 (.agg #[.slice A n cap]) "loop.example/sharedinference/impl.run").run Tryz.prog w = .ok (228, .agg #[.slice A n cap]) w := by kernel_rfl
end
end Go.Proofs.YtjgfjfjboimgdaaGreat
