/- MtK -/
import Derived.Test.YtjgfjfjboimgdaaGreatY13
namespace Go.Proofs.YtjgfjfjboimgdaaGreat
set_option linter.unusedSimpArgs false
set_option linter.unusedVariables false
set_option linter.unusedSectionVars false
open Go Go.RowKit
set_option maxHeartbeats 8000000
set_option maxRecDepth 20000
section
theorem sum_split {P c : List Int} {n : Nat} (hP : P.length = n) (aP : P.all rv = true) (ac : c.all rv = true) : tab n (sumsV c (tab n (subV P c))) = P := by
  subst hP
  rw [← tab_self P]
  rw [tab_length]
  refine tab_congr _ _ _ fun i hi => ?_
  unfold sumsV
  rw [tab_self, tab_getD _ _ _ hi]
  exact add_sub_ring (getD_rv aP i) (getD_rv ac i)
theorem C_slEqual (u v : Value) (xs : List Int) (w0 : World) (hu : Ints w0 u xs) (hv : Ints w0 v xs) :
    Calls Tryz.prog 197 #[u, v] w0 fun e w' => e = .returned (.bool true) ∧ Below w0.heap.size w0 w' := by
  obtain ⟨_, A, cap, rfl, hcap, hmax, hA⟩ := hu
  obtain ⟨_, B, cap', rfl, hcap', hmax', hB⟩ := hv
  obtain ⟨n, hx⟩ : ∃ n, xs.length = n := ⟨_, rfl⟩
  rw [hx] at hcap hcap' hA hB ⊢
  have HX := Lib.hid hx
  have HA := Lib.hid hA
  have HB := Lib.hid hB
  clear hA hB hx
  unfold maxLen at hmax hmax'
  obtain ⟨L, HL, S⟩ := st_start w0; have F : True := trivial
  go_enter Tryz.func197, Tryz.ntmps197
  go_wp2
  go_loopw [13] (fun i wr => ∃ (k : Nat), k ≤ n ∧ i = .int .i64 k ∧ St w0 wr L) (fun i _ => n - (intOf i).toNat)
  case atStart => exact ⟨0, Nat.zero_le _, rfl, S⟩
  case round =>
    clear S
    obtain ⟨k, hk, rfl, S⟩ := hrel
    by_cases hlt : k < n
    · obtain ⟨b, off, rfl, hb, hc⟩ := HA.out (by omega)
      obtain ⟨b', off', rfl, hb', hc'⟩ := HB.out (by omega)
      have c1 := fun w' (S' : St w0 w' L) => (S'.below.cell (p := ⟨b, off + k, none⟩) hb).trans (hc k _ (ints_getD xs k (by rw [HX.out]; exact hlt)))
      have c2 := fun w' (S' : St w0 w' L) => (S'.below.cell (p := ⟨b', off' + k, none⟩) hb').trans (hc' k _ (ints_getD xs k (by rw [HX.out]; exact hlt)))
      clear hc hc'
      go_wp2_with fail
      have HL0 := HL; have F0 := F; refine wp_region_tree (S := fun w' => St w0 w' L) (qcs 0 9 .fin) (by kernel_rfl) (by kernel_rfl) (by kernel_rfl) (by intro c a d v w h; cases d <;> exact h) ?_; dsimp only [qcs, Nat.reduceAdd]; replace S := S.drew
      repeat (first | refine qCa ?_ | refine qAn ?_ | refine qSk ?_ | (refine tree_act rfl rfl ?_ tree_stop; intro K hK; go_wp2_with (first | fail); (refine qKo hK ?_; clear hK K)))
      refine tree_fin ?_
      go_wp2
      go_roundw
      case rel => exact ⟨k + 1, by omega, by go_num, S⟩
      case measure => simp [intOf]; omega
    · obtain rfl : k = n := by omega
      go_wp2
      go_ret
      exact ⟨rfl, S.below⟩
theorem C_impl_sameMatrix (r c : Int) (xs : List Int) (u v : Value) (w0 : World) (hu : Ints w0 u xs) (hv : Ints w0 v xs) :
    Calls Tryz.prog 190 #[.agg #[.int .i64 r, .int .i64 c, u], .agg #[.int .i64 r, .int .i64 c, v]] w0 fun e w' => e = .returned (.bool true) ∧ Below w0.heap.size w0 w' := by
  obtain ⟨L, HL, S⟩ := st_start w0; have F : True := trivial
  go_enter Tryz.func190, Tryz.ntmps190
  go_upto_region 1 with (first | (refine qbx HL S ?_; clear F S HL; intro g w L HL S F))
  go_wp2_with (first | (go_at_call 116; refine qGr S (C_sameSides _ _ _ _ _ _ true _ (by simp)) ?_; clear S; intro w S) | (go_at_call 197; refine qGr S (C_slEqual _ _ xs _ (hu.at_ S) (hv.at_ S)) ?_; clear S; intro w S))
  go_ret
  exact ⟨rfl, S.below⟩
theorem C_impl_TripleRight (R K D : Nat) (a1 a2 b1 b2 c1 c2 XA XB : List Int) (u1 u2 u3 u4 u5 u6 : Value) (w0 : World) (h1 : Ints w0 u1 a1) (h2 : Ints w0 u2 a2) (h3 : Ints w0 u3 b1) (h4 : Ints w0 u4 b2) (h5 : Ints w0 u5 c1) (h6 : Ints w0 u6 c2)
    (r1 : 1 ≤ R) (r2 : R ≤ 5) (k1 : 1 ≤ K) (k2 : K ≤ 5) (d1 : 1 ≤ D) (d2 : D ≤ 5)
    (hlA : likeMx ⟨R, K, a1⟩ ⟨R, K, a2⟩ = true) (hlB : likeMx ⟨K, D, b1⟩ ⟨K, D, b2⟩ = true) (hlC : likeMx ⟨R, D, c1⟩ ⟨R, D, c2⟩ = true)
    (hA : sumMx ⟨R, K, a1⟩ ⟨R, K, a2⟩ = ⟨R, K, XA⟩) (hB : sumMx ⟨K, D, b1⟩ ⟨K, D, b2⟩ = ⟨K, D, XB⟩) (hC : sumMx ⟨R, D, c1⟩ ⟨R, D, c2⟩ = ⟨R, D, tab (R * D) (mulAt XA XB K D)⟩)
    (lA : XA.length = R * K) (lB : XB.length = K * D) (aA : XA.all rv = true) (aB : XB.all rv = true) :
    Calls Tryz.prog 173 #[.agg #[.int .i64 R, .int .i64 K, u1, .int .i64 R, .int .i64 K, u2, .int .i64 K, .int .i64 D, u3, .int .i64 K, .int .i64 D, u4, .int .i64 R, .int .i64 D, u5, .int .i64 R, .int .i64 D, u6]] w0 fun e w' => e = .returned (.bool true) ∧ Below w0.heap.size w0 w' := by
  have CP := fun w h1 h2 h3 h4 => C_tri_product R K D a1 a2 b1 b2 XA XB u1 u2 u3 u4 (.int .i64 R) (.int .i64 D) u5 (.int .i64 R) (.int .i64 D) u6 w h1 h2 h3 h4 r1 r2 k1 k2 d1 d2 hA hB lA lB aA aB
  have CJ := fun w h h' => C_impl_JoinL R D c1 R D c2 u5 u6 _ w h h' hC
  unfold MakesMx at CP CJ
  dsimp only at CJ
  rw [tab_length] at CP CJ
  have hzl : (tab (R * D) (mulAt XA XB K D)).length = R * D := tab_length _ _
  generalize tab (R * D) (mulAt XA XB K D) = zs at CP CJ hzl
  have HZ := Lib.hid hzl
  have H1 := Lib.hid h1
  have H2 := Lib.hid h2
  have H3 := Lib.hid h3
  have H4 := Lib.hid h4
  have H5 := Lib.hid h5
  have H6 := Lib.hid h6
  have HLA := Lib.hid hlA
  have HLB := Lib.hid hlB
  have HLC := Lib.hid hlC
  clear h1 h2 h3 h4 h5 h6 hA hB hC lA lB aA aB hlA hlB hlC hzl r1 r2 k1 k2 d1 d2
  obtain ⟨L, HL, S⟩ := st_start w0; have F : True := trivial
  go_enter Tryz.func173, Tryz.ntmps173
  go_upto_region 3 with (first | (refine qbx HL S ?_; clear F S HL; intro g w L HL S F) | refine qLb6 S ?_ | (go_at_call 72; refine qGr S (C_impl_SharedMatrixValid _ _ _ _ _ _ _ _ _ _ (by first | exact H1.out.at_ S | exact H3.out.at_ S | exact H5.out.at_ S) (by first | exact H2.out.at_ S | exact H4.out.at_ S | exact H6.out.at_ S) (by first | exact HLA.out | exact HLB.out | exact HLC.out)) ?_; clear S; intro w S))
  have HL0 := HL; have F0 := F; refine wp_region_tree (S := fun w' => St w0 w' L) (.calm 0 (.calm 1 (.calm 3 (.act 2 (.act 4 (.act 5 (.calm 6 .fin) .stop) .stop) .stop)))) (by kernel_rfl) (by kernel_rfl) (by kernel_rfl) (by intro c a d v w h; cases d <;> exact h) ?_; replace S := S.drew
  repeat' (first | refine qTb6 ?_ | refine qTb18 ?_ | refine qCa ?_ | refine qAn ?_ | refine qSk ?_ | exact tree_stop | (refine tree_act rfl rfl ?_ ?_) | (intro K hK; go_wp2_with (first | (go_at_call 172; refine (CP _ (H1.out.at_ S) (H2.out.at_ S) (H3.out.at_ S) (H4.out.at_ S)).mono ?_; rintro e w ⟨u, rfl, T0⟩; have hX := qcl HL S T0; clear F S HL T0; obtain ⟨L, HL, S, F⟩ := hX; obtain ⟨A', cap', rfl, hcap', hmax'⟩ := qSl HL S 0) | (go_at_call 27; refine (CJ _ (H5.out.at_ S) (H6.out.at_ S)).mono ?_; rintro e w ⟨u, rfl, T0⟩; have hX := qcl HL S T0; clear F S HL T0; obtain ⟨L, HL, S, F⟩ := hX; obtain ⟨A', cap', rfl, hcap', hmax'⟩ := qSl HL S 0) | (go_at_call 190; refine qGr S (C_impl_sameMatrix _ _ zs _ _ _ (by unfold Ints; rw [HZ.out]; exact (Sees.row S qAt)) (by unfold Ints; rw [HZ.out]; exact (Sees.row S qAt))) ?_; clear S; intro w S)); (refine qKo hK ?_; clear hK K)))
  all_goals
    refine tree_fin ?_
    clear HL0 F0
    go_wp2
    go_ret
    exact ⟨rfl, S.below⟩
theorem foldl_take_succ (f : Mx → Mx → Mx) (a m : Mx) (ms : List Mx) (q : Nat) (h : ms[q]? = some m) : (ms.take (q + 1)).foldl f a = f ((ms.take q).foldl f a) m := by
  rw [List.take_add_one, h, List.foldl_append]
  rfl
theorem C_sumMs (r c : Int) (xs : List Int) (u v : Value) (ms : List Mx) (t : Mx) (w0 : World) (h : Ints w0 u xs) (hv : SeesMs w0 v ms) (hne : 0 < ms.length) (ht : ms.foldl sumMx ⟨r, c, xs⟩ = t) :
    Calls Tryz.prog 174 #[.agg #[.int .i64 r, .int .i64 c, u], v] w0 (MakesMx w0 t.r t.c t.xs) := by
  unfold MakesMx
  have HU := Lib.hid h
  obtain ⟨_, A1, k1, rfl, hk1, hm1, _⟩ := h
  obtain ⟨A, cap, rfl, hcap, hmax, hA⟩ := hv
  obtain ⟨b, off, rfl, hb, hc⟩ := hA hne
  obtain ⟨n, hn⟩ : ∃ n, ms.length = n := ⟨_, rfl⟩
  rw [hn] at hcap hne ⊢
  have HN := Lib.hid hn
  have HC := Lib.hid hc
  have HT := Lib.hid ht
  clear hA hc hn ht
  unfold maxLen at hmax
  obtain ⟨L, HL, S⟩ := st_start w0; have F : True := trivial
  go_enter Tryz.func174, Tryz.ntmps174
  go_upto_region 1 with (first | (refine qbd 2 HL S ?_; clear F S HL; intro g2 w L HL S F) | (refine qal HL S zMx ?_; clear F S HL; intro g4 w L HL S F))
  go_upto_region 2 with (first | (refine qal HL S zMx ?_; clear F S HL; intro g5 w L HL S F) | (refine qst HL S 0 ?_; clear F S HL; intro w L HL S F))
  go_wp2
  go_loopw [11] (fun i wr => ∃ (q : Nat) (m : Mx) (A : Option Addr) (cap : Nat) (R L : List Ent), q ≤ n ∧ i = .int .i64 q ∧ m.xs.length ≤ cap ∧ cap ≤ maxLen ∧ Hid ((ms.take q).foldl sumMx ⟨r, c, xs⟩ = m) ∧ Hid (∀ w' L', St w0 w' L' → (∀ e ∈ R, e ∈ L') → Ints w' (.slice A m.xs.length cap) m.xs) ∧ Hid (0 < q → R = [.row 3 1 (.slice A m.xs.length cap) m.xs.length (ints m.xs)]) ∧
    Hid (L = .box g5 30 [.int .i64 m.r, .int .i64 m.c, .slice A m.xs.length cap] :: .box g4 30 [.int .i64 0, .int .i64 0, .slice none 0 0] :: .box g2 30 [.int .i64 r, .int .i64 c, .slice A1 xs.length k1] :: R) ∧ St w0 wr L) (fun i _ => n - (intOf i).toNat)
  case atStart => exact ⟨0, ⟨r, c, xs⟩, A1, k1, [], L, Nat.zero_le _, rfl, hk1, hm1, Lib.hid rfl, Lib.hid (fun w' L' S' _ => HU.out.at_ S'), Lib.hid (fun h => absurd h (by omega)), HL, S⟩
  case round =>
    clear F HL S
    obtain ⟨q, m, A, cap', R, L, hq, rfl, hcap', hmax', HM, HI, HR, HL, S⟩ := hrel
    obtain ⟨mr, mc, ys⟩ := m
    dsimp only at HL HI HR hcap'
    have F := factsAll HL S
    simp only [factsOf, cellsFrom, and_true, true_and, Nat.reduceAdd] at F
    by_cases hlt : q < n
    · obtain ⟨m', hm'⟩ := some_at HN.out hlt
      obtain ⟨u, e1, e2, e3, hu⟩ := HC.out q m' hm'
      replace e1 := (S.below.cell (p := ⟨b, off + q * 3, none⟩) hb).trans e1
      replace e2 := (S.below.cell (p := ⟨b, off + q * 3 + 1, none⟩) hb).trans e2
      replace e3 := (S.below.cell (p := ⟨b, off + q * 3 + 2, none⟩) hb).trans e3
      have hs := foldl_take_succ sumMx ⟨r, c, xs⟩ m' ms q hm'
      rw [HM.out] at hs
      obtain ⟨nr, nc, ns⟩ := m'
      dsimp only at e1 e2 hu
      obtain ⟨t2, ht2⟩ : ∃ t2, sumMx ⟨mr, mc, ys⟩ ⟨nr, nc, ns⟩ = t2 := ⟨_, rfl⟩
      obtain ⟨tr, tc, ts⟩ := t2
      have CA := fun u v w h h' => C_impl_AddL mr mc ys nr nc ns u v _ w h h' ht2
      unfold MakesMx at CA
      dsimp only at CA
      rw [ht2] at hs
      have HS := Lib.hid hs
      have HV := Lib.hid hu
      obtain ⟨_, Au, cu, rfl, _, _, _⟩ := hu
      clear hm' hs ht2
      go_wp2_with (first | (refine qal HL S zMx ?_; clear F S HL; intro g7 w L HL S F) | (refine qst HL S 0 ?_; clear F S HL; intro w L HL S F) | (refine qst HL S 2 ?_; clear F S HL; intro w L HL S F) | (go_at_call 68; refine (CA _ _ _ (HI.out _ _ S (by rw [HL.out]; intro e he; simp [he])) (Sees.at_ HV.out S)).mono ?_; rintro e w ⟨u, rfl, T0⟩; have hX := qcl HL S T0; clear F S HL T0; obtain ⟨L, HL, S, F⟩ := hX; obtain ⟨A', cap', rfl, hcap', hmax'⟩ := qSl HL S 0))
      go_roundw
      case rel => exact ⟨q + 1, ⟨tr, tc, ts⟩, _, _, [.row 3 1 _ ts.length (ints ts)], _, by omega, by go_num, ‹ts.length ≤ _›, ‹_ ≤ maxLen›, HS, Lib.hid (fun w' L' S' h => Sees.own (S'.own _ (h _ (List.mem_singleton.2 rfl)))), Lib.hid (fun _ => rfl), Lib.hid rfl, (by rw [HL.out] at S; exact S.sel (by exact qSel))⟩
      case measure => simp [intOf]; omega
    · obtain rfl : q = n := by omega
      obtain rfl := HR.out hne
      have e := HM.out
      rw [List.take_of_length_le (Nat.le_of_eq HN.out), HT.out] at e
      subst e
      go_wp2_with (first | (refine qst HL S 1 ?_; clear F S HL; intro w L HL S F))
      ((try simp only [Exit.inBlock, Exit.then]); refine ret1 rfl (resCell S HL 1 rfl rfl (by kernel_rfl)) rfl ?_)
      exact ⟨_, rfl, (by rw [HL.out] at S; exact S.sel (by exact qSel))⟩
end
end Go.Proofs.YtjgfjfjboimgdaaGreat
