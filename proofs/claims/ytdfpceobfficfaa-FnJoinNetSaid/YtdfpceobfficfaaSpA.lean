/-
  Contracts: split matrices (the program's); the plain function of split networks.
-/
import Derived.Test.YtdfpceobfficfaaMatQ
import Derived.Test.YtdfpceobfficfaaMatI
import Derived.Test.YtdfpceobfficfaaWpl
namespace Go.Proofs.Ytdfpceobfficfaa
set_option linter.unusedSimpArgs false
set_option linter.unusedVariables false
set_option linter.unusedSectionVars false
open Go Go.RowKit
set_option maxHeartbeats 8000000
set_option maxRecDepth 20000
/-! ### Plain -/
def splitMx (m : Mx) (s : Int) : SMx := ⟨⟨m.r, m.c, rndTo s m.xs.length⟩, ⟨m.r, m.c, tab m.xs.length (subV m.xs (rndTo s m.xs.length))⟩⟩
def splitMs : List Mx → Int → List SMx × Int
  | [], s => ([], s)
  | m :: ms, s => (splitMx m s :: (splitMs ms (seedAt s m.xs.length)).1, (splitMs ms (seedAt s m.xs.length)).2)
def splitLy (l : Ly) (s : Int) : SLy := ⟨l.kind, (splitMs l.ws s).1⟩
def splitLs : List Ly → Int → List SLy × Int
  | [], s => ([], s)
  | l :: ls, s => (splitLy l s :: (splitLs ls (splitMs l.ws s).2).1, (splitLs ls (splitMs l.ws s).2).2)
/-- The network shared, and the last seed. -/
def splitRes (ls : List Ly) (s : Int) : List SLy × Int := if decide (ls.length ≤ 4) && ls.all Ly.ok && seedOk s then splitLs ls s else ([], 0)
theorem splitRes_ok {ls : List Ly} {s : Int} (h4 : (decide (ls.length ≤ 4) && ls.all Ly.ok) = true) (hs : seedOk s = true) : splitRes ls s = splitLs ls s := by
  unfold splitRes
  rw [h4, hs]
  rfl
theorem splitRes_bad {ls : List Ly} {s : Int} (h4 : (decide (ls.length ≤ 4) && ls.all Ly.ok) = false) : splitRes ls s = ([], 0) := by
  unfold splitRes
  rw [h4, Bool.false_and]
  rfl
theorem splitRes_seed {ls : List Ly} {s : Int} (hs : seedOk s = false) : splitRes ls s = ([], 0) := by
  unfold splitRes
  rw [hs, Bool.and_false]
  rfl
theorem Ly.ok_ms {l : Ly} (h : l.ok = true) : l.ws.length ≤ 3 ∧ ∀ m ∈ l.ws, m.ok = true := by
  cases Ly.ok_case h with
  | dense w b hd =>
    simp only [denseFit, Bool.and_eq_true] at hd
    refine ⟨by simp, fun m hm => ?_⟩
    simp only [List.mem_cons, List.not_mem_nil, or_false] at hm
    rcases hm with rfl | rfl
    · exact hd.1.1.1
    · exact hd.1.1.2
  | ramp => exact ⟨by simp, fun m hm => by cases hm⟩
  | mix a b c hd =>
    simp only [mixFit, Bool.and_eq_true] at hd
    refine ⟨by simp, fun m hm => ?_⟩
    simp only [List.mem_cons, List.not_mem_nil, or_false] at hm
    rcases hm with rfl | rfl | rfl
    · exact hd.1.1.1.1.1
    · exact hd.1.1.1.1.2
    · exact hd.1.1.1.2
theorem seedOk_at {s : Int} (h : seedOk s = true) (k : Nat) : seedOk (seedAt s k) = true := by
  have := seedAt_pos (seedOk_bd h) k
  simp [seedOk, this.1, this.2]
theorem C_SubRingL (a b q : Int) (w0 : World) (h : subR a b = q) : Calls Try.prog 112 #[.int .i64 a, .int .i64 b] w0 fun e w' => e = .returned (.int .i64 q) ∧ w0 = w' := h ▸ C_impl_SubRing a b w0
theorem C_pairSub (R C N : Nat) (xs ys : List Int) (u v : Value) (w0 : World) (h : Ints w0 u xs) (h' : Ints w0 v ys) (r1 : 1 ≤ R) (r2 : R ≤ 5) (c1 : 1 ≤ C) (c2 : C ≤ 5) (hRC : R * C = N) (hN : xs.length = N) (hN' : ys.length = N) (hN2 : N ≤ 25) (a1 : xs.all rv = true) (a2 : ys.all rv = true) :
    Calls Try.prog 106 #[.agg #[.int .i64 R, .int .i64 C, u], .agg #[.int .i64 R, .int .i64 C, v], .func (.func 112) #[] #[]] w0 (MakesMx w0 R C (tab N (subV xs ys))) := by
  unfold MakesMx
  have HU := Lib.hid h
  have HV := Lib.hid h'
  obtain ⟨_, A1, k1, rfl, hk1, hm1, hA1⟩ := h
  obtain ⟨_, A2, k2, rfl, hk2, hm2, hA2⟩ := h'
  have H1 := Lib.hid (Mx.ok_of r1 r2 c1 c2 (by rw [hN, hRC]) a1 : (Mx.mk R C xs).ok = true)
  have H2 := Lib.hid (Mx.ok_of r1 r2 c1 c2 (by rw [hN', hRC]) a2 : (Mx.mk R C ys).ok = true)
  clear a1 a2
  have hN0 : 0 < N := by rw [← hRC]; exact Nat.mul_pos (by omega) (by omega)
  obtain ⟨ba, oa, rfl, hba, hca⟩ := hA1 (by omega)
  obtain ⟨bb, ob, rfl, hbb, hcb⟩ := hA2 (by omega)
  have HCA := Lib.hid hca
  have HCB := Lib.hid hcb
  have HN := Lib.hid hN
  have HN' := Lib.hid hN'
  have HNC := Lib.hid hRC
  clear hA1 hA2 hca hcb hN hN' hRC
  have CE := fun w => C_emptyMatrix R C N w HNC.out hN2
  unfold MakesMx at CE
  rw [tab_length] at CE
  rw [tab_length]
  obtain ⟨L, HL, S⟩ := st_start w0; have F : True := trivial
  go_enter Try.func106, Try.ntmps106
  go_upto_region 1 with (first | (refine wpList_box (o := { dst := some 3, op := _, type := _, pos := _, after := _, guard := _ }) rfl S _ _ rfl ?_; intro ga w L hM T; clear F S; (try rw [HL.out] at hM); clear HL; (try simp [Act.put, Act.eval, Value.cells, splice] at hM); have HL := Lib.hid hM; clear hM; have S := T; clear T; have F := factsAll HL S; (try simp only [factsOf, cellsFrom, and_true, true_and, Nat.reduceAdd] at F)) | (refine wpList_box (o := { dst := some 4, op := _, type := _, pos := _, after := _, guard := _ }) rfl S _ _ rfl ?_; intro gb w L hM T; clear F S; (try rw [HL.out] at hM); clear HL; (try simp [Act.put, Act.eval, Value.cells, splice] at hM); have HL := Lib.hid hM; clear hM; have S := T; clear T; have F := factsAll HL S; (try simp only [factsOf, cellsFrom, and_true, true_and, Nat.reduceAdd] at F)) | (refine wpList_alloc rfl S 55 _ rfl zMx ?_; intro gr w L hM T; clear F S; (try rw [HL.out] at hM); clear HL; (try simp [Act.put, Act.eval, Value.cells, splice] at hM); have HL := Lib.hid hM; clear hM; have S := T; clear T; have F := factsAll HL S; (try simp only [factsOf, cellsFrom, and_true, true_and, Nat.reduceAdd] at F)))
  go_upto_region 3 with (first | (go_at_call 62; refine (C_impl_MatrixValid _ _ _ _ _ _ (by first | exact HU.out.at_ S | exact HV.out.at_ S) (by first | exact H1.out | exact H2.out)).mono ?_; rintro e w ⟨rfl, hb⟩; replace S := S.grow hb; clear hb) | (go_at_call 110; refine (C_sameSides _ _ _ _ _ _ true _ (by simp)).mono ?_; rintro e w ⟨rfl, hb⟩; replace S := S.grow hb; clear hb))
  go_upto_region 4 with (first | (refine wpList_alloc rfl S 55 _ rfl zMx ?_; intro g7 w L hM T; clear F S; (try rw [HL.out] at hM); clear HL; (try simp [Act.put, Act.eval, Value.cells, splice] at hM); have HL := Lib.hid hM; clear hM; have S := T; clear T; have F := factsAll HL S; (try simp only [factsOf, cellsFrom, and_true, true_and, Nat.reduceAdd] at F)) | (refine wpList_store_box rfl S _ _ _ rfl 0 _ _ _ _ (atOf HL rfl) rfl _ rfl (by kernel_rfl) rfl rfl ?_; intro w L hM T; clear F S; (try rw [HL.out] at hM); clear HL; (try simp [Act.put, Act.eval, Value.cells, splice] at hM); have HL := Lib.hid hM; clear hM; have S := T; clear T; have F := factsAll HL S; (try simp only [factsOf, cellsFrom, and_true, true_and, Nat.reduceAdd] at F)) | (go_at_call 126; refine (CE _).mono ?_; rintro e w ⟨u, rfl, T0⟩; obtain ⟨L, hM, T⟩ := st_name (S.call T0); clear T0; clear F S; (try rw [HL.out] at hM); clear HL; (try simp [Act.put, Act.eval, Value.cells, splice] at hM); have HL := Lib.hid hM; clear hM; have S := T; clear T; have F := factsAll HL S; (try simp only [factsOf, cellsFrom, and_true, true_and, Nat.reduceAdd] at F); obtain ⟨A', cap', rfl, hcap', hmax'⟩ := S.sliceOf (atOf HL (p := 0) rfl)))
  obtain ⟨gn, cn, ev, hcv, hmv⟩ := S.rowAt (p := 1) (atOf HL rfl) hN0
  obtain ⟨rfl, rfl⟩ : A' = some ⟨gn, 0, none⟩ ∧ cap' = cn := by injection ev with e1 _ e3; exact ⟨e1, e3⟩
  clear ev CE
  go_wp2
  go_loopw [33] (fun i wr => ∃ (k : Nat) (L : List Ent), k ≤ N ∧ i = .int .i64 k ∧ Hid (L = [.box g7 55 [.int .i64 R, .int .i64 C, .slice (some ⟨gn, 0, none⟩) N cap'], .row 3 1 (.slice (some ⟨gn, 0, none⟩) N cap') N (ints (tab N fun q => if q < k then subV xs ys q else 0)), .box gr 55 [.int .i64 0, .int .i64 0, .slice none 0 0], .box gb 55 [.int .i64 R, .int .i64 C, .slice (some ⟨bb, ob, none⟩) ys.length k2], .box ga 55 [.int .i64 R, .int .i64 C, .slice (some ⟨ba, oa, none⟩) xs.length k1]]) ∧ St w0 wr L) (fun i _ => N - (intOf i).toNat)
  case atStart => exact ⟨0, L, Nat.zero_le _, rfl, Lib.hid (by rw [HL.out, fil_zero]), S⟩
  case round =>
    clear F HL S
    obtain ⟨k, L, hk, rfl, HL, S⟩ := hrel
    have F := factsAll HL S
    simp only [factsOf, cellsFrom, and_true, true_and, Nat.reduceAdd] at F
    by_cases hlt : k < N
    · have hlx : k < xs.length := by rw [HN.out]; exact hlt
      have hly : k < ys.length := by rw [HN'.out]; exact hlt
      have c0 := (S.below.cell (p := ⟨ba, oa + k, none⟩) hba).trans (HCA.out k _ (ints_getD xs k hlx))
      have D1 := Lib.hid (HCB.out k _ (ints_getD ys k hly))
      have ea := fil_set (subV xs ys) N k
      have eq : subR (xs.getD k 0) (ys.getD k 0) = subV xs ys k := rfl
      generalize xs.getD k 0 = x at c0 eq
      generalize ys.getD k 0 = y at D1 eq
      generalize subV xs ys k = z at ea eq
      have EQ := Lib.hid eq
      have EA := Lib.hid ea
      clear ea eq
      go_upto_region 7 with fail
      have d1 := fun w' (S' : St w0 w' L) => (S'.below.cell (p := ⟨bb, ob + k, none⟩) hbb).trans D1.out
      have HL0 := HL; have F0 := F; refine wp_region_tree (S := fun w' => St w0 w' L) (.calm 0 (.calm 1 (.calm 2 (.calm 3 (.calm 4 (.calm 5 (.calm 6 (.calm 7 (.calm 8 (.calm 9 (.act 10 (.calm 11 (.act 12 .fin .stop)) .stop))))))))))) (by kernel_rfl) (by kernel_rfl) (by kernel_rfl) (by intro c a d v w h; cases d <;> exact h) ?_; replace S := S.drew
      repeat (first | (first | (refine tree_calm (v := ?_) ?_ rfl (by decide +kernel) rfl ?_ ?_; rotate_left; (focus (first | exact S | (refine S.sub (subL HL0 HL ?_); (repeat (first | exact List.Sublist.refl _ | apply List.Sublist.cons)); done))); (focus (intro w' hS'; (try dsimp only at hS'); go_simp; try rfl)); (try simp only [Act.put, List.setIfInBounds_toArray, List.set_cons_zero, List.set_cons_succ])) | (refine tree_any (v := ?_) ?_ rfl rfl ?_ ?_; rotate_left; (focus (first | exact S | (refine S.sub (subL HL0 HL ?_); (repeat (first | exact List.Sublist.refl _ | apply List.Sublist.cons)); done))); (focus (intro w'; go_simp; try rfl)); (try simp only [Act.put, List.setIfInBounds_toArray, List.set_cons_zero, List.set_cons_succ]))) | (refine tree_skip ?_ rfl rfl ?_; (focus (first | exact S | (refine S.sub (subL HL0 HL ?_); (repeat (first | exact List.Sublist.refl _ | apply List.Sublist.cons)); done))); (try simp only [Act.put, List.setIfInBounds_toArray, List.set_cons_zero, List.set_cons_succ])) | (refine tree_act rfl rfl ?_ tree_stop; intro K hK; (refine wp_store_row S _ _ _ rfl 1 _ _ _ _ _ _ _ (atOf HL rfl) rfl _ rfl (by kernel_rfl) rfl (by omega) ?_; intro w L hM T; clear F S; (try rw [HL.out] at hM); clear HL; (try simp [Act.put, Act.eval, Value.cells, splice] at hM); have HL := Lib.hid hM; clear hM; have S := T; clear T; have F := factsAll HL S; (try simp only [factsOf, cellsFrom, and_true, true_and, Nat.reduceAdd] at F)); (refine hK.out _ _ ?_ ?_; (focus (first | exact fun _ => S | (intro _; refine S.sub (subL HL0 HL ?_); (repeat (first | exact List.Sublist.refl _ | apply List.Sublist.cons)); done) | (refine sink_no ?_; kernel_rfl))); clear hK K; (try simp only [Act.put, List.setIfInBounds_toArray, List.set_cons_zero, List.set_cons_succ]))) | (refine tree_act rfl rfl ?_ tree_stop; intro K hK; go_wp2_with (first | (go_at_call 112; refine (C_SubRingL _ _ _ _ (by exact EQ.out)).mono ?_; rintro e w' ⟨rfl, rfl⟩)); (refine hK.out _ _ ?_ ?_; (focus (first | exact fun _ => S | (intro _; refine S.sub (subL HL0 HL ?_); (repeat (first | exact List.Sublist.refl _ | apply List.Sublist.cons)); done) | (refine sink_no ?_; kernel_rfl))); clear hK K; (try simp only [Act.put, List.setIfInBounds_toArray, List.set_cons_zero, List.set_cons_succ]))))
      refine tree_fin ?_
      clear HL0 F0 d1
      go_wp2
      go_roundw
      case rel =>
        rw [← ints_set, EA.out] at HL
        exact ⟨k + 1, L, by omega, by go_num, HL, S⟩
      case measure => simp [intOf]; omega
    · obtain rfl : k = N := by omega
      have hlx : ¬ k < xs.length := by rw [HN.out]; omega
      go_wp2_with (first | (refine wpList_store_box rfl S _ _ _ rfl 2 _ _ _ _ (atOf HL rfl) rfl _ rfl (by kernel_rfl) rfl rfl ?_; intro w L hM T; clear F S; (try rw [HL.out] at hM); clear HL; (try simp [Act.put, Act.eval, Value.cells, splice] at hM); have HL := Lib.hid hM; clear hM; have S := T; clear T; have F := factsAll HL S; (try simp only [factsOf, cellsFrom, and_true, true_and, Nat.reduceAdd] at F)))
      ((try simp only [Exit.inBlock, Exit.then]); refine ret1 rfl (resCell S HL 2 rfl rfl (by kernel_rfl)) rfl ?_)
      refine ⟨_, rfl, ?_⟩
      rw [fil_full] at HL
      exact (by rw [HL.out] at S; exact S.sub (by repeat (first | exact .refl _ | exact List.nil_sublist _ | apply List.Sublist.cons_cons | apply List.Sublist.cons)))
theorem C_impl_SubL (R C N : Nat) (xs ys : List Int) (u v : Value) (w0 : World) (h : Ints w0 u xs) (h' : Ints w0 v ys) (r1 : 1 ≤ R) (r2 : R ≤ 5) (c1 : 1 ≤ C) (c2 : C ≤ 5) (hRC : R * C = N) (hN : xs.length = N) (hN' : ys.length = N) (hN2 : N ≤ 25) (a1 : xs.all rv = true) (a2 : ys.all rv = true) :
    Calls Try.prog 82 #[.agg #[.int .i64 R, .int .i64 C, u], .agg #[.int .i64 R, .int .i64 C, v]] w0 (MakesMx w0 R C (tab N (subV xs ys))) := by
  have CP := fun w h h' => C_pairSub R C N xs ys u v w h h' r1 r2 c1 c2 hRC hN hN' hN2 a1 a2
  unfold MakesMx at CP ⊢
  have HU := Lib.hid h
  have HV := Lib.hid h'
  obtain ⟨_, A1, k1, rfl, hk1, hm1, _⟩ := h
  obtain ⟨_, A2, k2, rfl, hk2, hm2, _⟩ := h'
  rw [tab_length] at CP
  rw [tab_length]
  generalize tab N (subV xs ys) = zs at CP ⊢
  clear hRC hN hN' a1 a2
  obtain ⟨L, HL, S⟩ := st_start w0; have F : True := trivial
  go_enter Try.func82, Try.ntmps82
  go_wp2_with (first | (refine wpList_box rfl S _ _ rfl ?_; intro g w L hM T; clear F S; (try rw [HL.out] at hM); clear HL; (try simp [Act.put, Act.eval, Value.cells, splice] at hM); have HL := Lib.hid hM; clear hM; have S := T; clear T; have F := factsAll HL S; (try simp only [factsOf, cellsFrom, and_true, true_and, Nat.reduceAdd] at F)) | (refine wpList_alloc rfl S 55 _ rfl zMx ?_; intro g w L hM T; clear F S; (try rw [HL.out] at hM); clear HL; (try simp [Act.put, Act.eval, Value.cells, splice] at hM); have HL := Lib.hid hM; clear hM; have S := T; clear T; have F := factsAll HL S; (try simp only [factsOf, cellsFrom, and_true, true_and, Nat.reduceAdd] at F)) | (refine wpList_store_box rfl S _ _ _ rfl 0 _ _ _ _ (atOf HL rfl) rfl _ rfl (by kernel_rfl) rfl rfl ?_; intro w L hM T; clear F S; (try rw [HL.out] at hM); clear HL; (try simp [Act.put, Act.eval, Value.cells, splice] at hM); have HL := Lib.hid hM; clear hM; have S := T; clear T; have F := factsAll HL S; (try simp only [factsOf, cellsFrom, and_true, true_and, Nat.reduceAdd] at F)) | (refine wpList_store_box rfl S _ _ _ rfl 1 _ _ _ _ (atOf HL rfl) rfl _ rfl (by kernel_rfl) rfl rfl ?_; intro w L hM T; clear F S; (try rw [HL.out] at hM); clear HL; (try simp [Act.put, Act.eval, Value.cells, splice] at hM); have HL := Lib.hid hM; clear hM; have S := T; clear T; have F := factsAll HL S; (try simp only [factsOf, cellsFrom, and_true, true_and, Nat.reduceAdd] at F)) | (refine wpList_store_box rfl S _ _ _ rfl 2 _ _ _ _ (atOf HL rfl) rfl _ rfl (by kernel_rfl) rfl rfl ?_; intro w L hM T; clear F S; (try rw [HL.out] at hM); clear HL; (try simp [Act.put, Act.eval, Value.cells, splice] at hM); have HL := Lib.hid hM; clear hM; have S := T; clear T; have F := factsAll HL S; (try simp only [factsOf, cellsFrom, and_true, true_and, Nat.reduceAdd] at F)) | (refine wpList_store_box rfl S _ _ _ rfl 3 _ _ _ _ (atOf HL rfl) rfl _ rfl (by kernel_rfl) rfl rfl ?_; intro w L hM T; clear F S; (try rw [HL.out] at hM); clear HL; (try simp [Act.put, Act.eval, Value.cells, splice] at hM); have HL := Lib.hid hM; clear hM; have S := T; clear T; have F := factsAll HL S; (try simp only [factsOf, cellsFrom, and_true, true_and, Nat.reduceAdd] at F))  | (go_at_call 106; refine (CP _ (HU.out.at_ S) (HV.out.at_ S)).mono ?_; rintro e w ⟨u, rfl, T0⟩; obtain ⟨L, hM, T⟩ := st_name (S.call T0); clear T0; clear F S; (try rw [HL.out] at hM); clear HL; (try simp [Act.put, Act.eval, Value.cells, splice] at hM); have HL := Lib.hid hM; clear hM; have S := T; clear T; have F := factsAll HL S; (try simp only [factsOf, cellsFrom, and_true, true_and, Nat.reduceAdd] at F); obtain ⟨A', cap', rfl, hcap', hmax'⟩ := S.sliceOf (atOf HL (p := 0) rfl)))
  ((try simp only [Exit.inBlock, Exit.then]); refine ret1 rfl (resCell S HL 1 rfl rfl (by kernel_rfl)) rfl ?_)
  exact ⟨_, rfl, (by rw [HL.out] at S; exact S.sub (by repeat (first | exact .refl _ | exact List.nil_sublist _ | apply List.Sublist.cons_cons | apply List.Sublist.cons)))⟩
theorem C_impl_RandomMatrix (R C N : Nat) (s : Int) (w0 : World) (hs : seedOk s = true) (r1 : 1 ≤ R) (r2 : R ≤ 5) (c1 : 1 ≤ C) (c2 : C ≤ 5) (hRC : R * C = N) (hN2 : N ≤ 25) :
    Calls Try.prog 81 #[.int .i64 R, .int .i64 C, .int .i64 s] w0 fun e w => ∃ u, e = .returned (.tuple #[.agg #[.int .i64 R, .int .i64 C, u], .int .i64 (seedAt s N)]) ∧ St w0 w [.row 3 1 u N (ints (rndTo s N))] := by
  have CV := fun w => C_seedValid s w
  rw [hs] at CV
  have CN := fun w => C_RandomList s N w hs (by omega)
  unfold MakesRnd at CN
  have HR := Lib.hid (show sideOk (R : Int) = true from sideOk_iff.2 ⟨by omega, by omega⟩)
  have HC := Lib.hid (show sideOk (C : Int) = true from sideOk_iff.2 ⟨by omega, by omega⟩)
  have w1 : (R : Int) * (C : Int) = (N : Int) := by rw [← hRC, Int.natCast_mul]
  clear hRC hs
  obtain ⟨L, HL, S⟩ := st_start w0; have F : True := trivial
  go_enter Try.func81, Try.ntmps81
  go_upto_region 1 with (first | (refine wpList_alloc rfl S 55 _ rfl zMx ?_; intro gr w L hM T; clear F S; (try rw [HL.out] at hM); clear HL; (try simp [Act.put, Act.eval, Value.cells, splice] at hM); have HL := Lib.hid hM; clear hM; have S := T; clear T; have F := factsAll HL S; (try simp only [factsOf, cellsFrom, and_true, true_and, Nat.reduceAdd] at F)))
  go_upto_region 3 with (first | (go_at_call 71; refine (C_sideValid' _ _ _ (by first | exact HR.out | exact HC.out)).mono ?_; rintro e w' ⟨rfl, rfl⟩) | (go_at_call 45; refine (CV _).mono ?_; rintro e w' ⟨rfl, rfl⟩))
  go_wp2_with (first | (refine wpList_store_box rfl S _ _ _ rfl 0 _ _ _ _ (atOf HL rfl) rfl _ rfl (by kernel_rfl) rfl rfl ?_; intro w L hM T; clear F S; (try rw [HL.out] at hM); clear HL; (try simp [Act.put, Act.eval, Value.cells, splice] at hM); have HL := Lib.hid hM; clear hM; have S := T; clear T; have F := factsAll HL S; (try simp only [factsOf, cellsFrom, and_true, true_and, Nat.reduceAdd] at F)) | (refine wpList_store_box rfl S _ _ _ rfl 1 _ _ _ _ (atOf HL rfl) rfl _ rfl (by kernel_rfl) rfl rfl ?_; intro w L hM T; clear F S; (try rw [HL.out] at hM); clear HL; (try simp [Act.put, Act.eval, Value.cells, splice] at hM); have HL := Lib.hid hM; clear hM; have S := T; clear T; have F := factsAll HL S; (try simp only [factsOf, cellsFrom, and_true, true_and, Nat.reduceAdd] at F)) | (go_at_call 111; refine (CN _).mono ?_; rintro e w ⟨u, rfl, T0⟩; obtain ⟨L, hM, T⟩ := st_name (S.call T0); clear T0; clear F S; (try rw [HL.out] at hM); clear HL; (try simp [Act.put, Act.eval, Value.cells, splice] at hM); have HL := Lib.hid hM; clear hM; have S := T; clear T; have F := factsAll HL S; (try simp only [factsOf, cellsFrom, and_true, true_and, Nat.reduceAdd] at F); obtain ⟨A', cap', rfl, hcap', hmax'⟩ := S.sliceOf (atOf HL (p := 0) rfl)))
  refine ret2 rfl (resCell S HL 1 rfl rfl (by kernel_rfl)) (show _ = _ from rfl) rfl ?_
  exact ⟨_, rfl, (by rw [HL.out] at S; exact S.sub (by repeat (first | exact .refl _ | exact List.nil_sublist _ | apply List.Sublist.cons_cons | apply List.Sublist.cons)))⟩
theorem C_impl_SplitMatrix (R C N : Nat) (xs : List Int) (u : Value) (s : Int) (w0 : World) (h : Ints w0 u xs) (hs : seedOk s = true) (r1 : 1 ≤ R) (r2 : R ≤ 5) (c1 : 1 ≤ C) (c2 : C ≤ 5) (hRC : R * C = N) (hN : xs.length = N) (hN2 : N ≤ 25) (a1 : xs.all rv = true) :
    Calls Try.prog 46 #[.agg #[.int .i64 R, .int .i64 C, u], .int .i64 s] w0 fun e w => ∃ u v, e = .returned (.tuple #[.agg #[.int .i64 R, .int .i64 C, u, .int .i64 R, .int .i64 C, v], .int .i64 (seedAt s N)]) ∧ St w0 w [.row 3 1 v N (ints (tab N (subV xs (rndTo s N)))), .row 3 1 u N (ints (rndTo s N))] := by
  have HU := Lib.hid h
  obtain ⟨_, A1, k1, rfl, hk1, hm1, _⟩ := h
  have CV := fun w => C_seedValid s w
  rw [hs] at CV
  have CR := fun w => C_impl_RandomMatrix R C N s w hs r1 r2 c1 c2 hRC hN2
  have CB := fun v w h h' => C_impl_SubL R C N xs (rndTo s N) (.slice A1 xs.length k1) v w h h' r1 r2 c1 c2 hRC hN (rndTo_length s N) hN2 a1 (rndTo_all s N)
  have hok : (Mx.mk R C xs).ok = true := Mx.ok_of r1 r2 c1 c2 (by rw [hN, hRC]) a1
  unfold MakesMx at CB
  rw [tab_length] at CB
  have HK := Lib.hid hok
  clear hok hs hRC a1
  have hl := rndTo_length s N
  generalize tab N (subV xs (rndTo s N)) = zs at CB ⊢
  generalize rndTo s N = rs at CR CB hl ⊢
  have HLr := Lib.hid hl
  have HN := Lib.hid hN
  clear hl hN
  obtain ⟨L, HL, S⟩ := st_start w0; have F : True := trivial
  go_enter Try.func46, Try.ntmps46
  go_upto_region 3 with (first | (refine wpList_box (o := { dst := some 2, op := _, type := _, pos := _, after := _, guard := _ }) rfl S _ _ rfl ?_; intro gm w L hM T; clear F S; (try rw [HL.out] at hM); clear HL; (try simp [Act.put, Act.eval, Value.cells, splice] at hM); have HL := Lib.hid hM; clear hM; have S := T; clear T; have F := factsAll HL S; (try simp only [factsOf, cellsFrom, and_true, true_and, Nat.reduceAdd] at F)) | (refine wpList_alloc rfl S 67 _ rfl zSMx ?_; intro gr w L hM T; clear F S; (try rw [HL.out] at hM); clear HL; (try simp [Act.put, Act.eval, Value.cells, splice] at hM); have HL := Lib.hid hM; clear hM; have S := T; clear T; have F := factsAll HL S; (try simp only [factsOf, cellsFrom, and_true, true_and, Nat.reduceAdd] at F)) | (go_at_call 62; refine (C_impl_MatrixValid _ _ _ _ _ _ (by exact HU.out.at_ S) (by exact HK.out)).mono ?_; rintro e w ⟨rfl, hb⟩; replace S := S.grow hb; clear hb) | (go_at_call 45; refine (CV _).mono ?_; rintro e w' ⟨rfl, rfl⟩))
  go_upto_region 4 with (first | (refine wpList_alloc rfl S 55 _ rfl zMx ?_; intro g6 w L hM T; clear F S; (try rw [HL.out] at hM); clear HL; (try simp [Act.put, Act.eval, Value.cells, splice] at hM); have HL := Lib.hid hM; clear hM; have S := T; clear T; have F := factsAll HL S; (try simp only [factsOf, cellsFrom, and_true, true_and, Nat.reduceAdd] at F)) | (refine wpList_store_box rfl S _ _ _ rfl 0 _ _ _ _ (atOf HL rfl) rfl _ rfl (by kernel_rfl) rfl rfl ?_; intro w L hM T; clear F S; (try rw [HL.out] at hM); clear HL; (try simp [Act.put, Act.eval, Value.cells, splice] at hM); have HL := Lib.hid hM; clear hM; have S := T; clear T; have F := factsAll HL S; (try simp only [factsOf, cellsFrom, and_true, true_and, Nat.reduceAdd] at F)) | (refine wpList_store_box rfl S _ _ _ rfl 1 _ _ _ _ (atOf HL rfl) rfl _ rfl (by kernel_rfl) rfl rfl ?_; intro w L hM T; clear F S; (try rw [HL.out] at hM); clear HL; (try simp [Act.put, Act.eval, Value.cells, splice] at hM); have HL := Lib.hid hM; clear hM; have S := T; clear T; have F := factsAll HL S; (try simp only [factsOf, cellsFrom, and_true, true_and, Nat.reduceAdd] at F)) | (go_at_call 81; refine (CR _).mono ?_; rintro e w ⟨u, rfl, T0⟩; obtain ⟨L, hM, T⟩ := st_name (S.call T0); clear T0; clear F S; (try rw [HL.out] at hM); clear HL; (try simp [Act.put, Act.eval, Value.cells, splice] at hM); have HL := Lib.hid hM; clear hM; have S := T; clear T; have F := factsAll HL S; (try simp only [factsOf, cellsFrom, and_true, true_and, Nat.reduceAdd] at F); obtain ⟨A', cap', rfl, hcap', hmax'⟩ := S.sliceOf (atOf HL (p := 0) rfl)))
  clear CR
  have T := S.front (atOf HL (p := 2) rfl)
  rw [HL.out] at T
  simp only [List.eraseIdx_cons_zero, List.eraseIdx_cons_succ] at T
  clear S HL F
  have S := T
  clear T
  obtain ⟨L, hM, T⟩ := st_name S; clear S; have S := T; clear T; have HL := Lib.hid hM; clear hM; have F := factsAll HL S; (try simp only [factsOf, cellsFrom, and_true, true_and, Nat.reduceAdd] at F)
  have hT := congrArg List.tail HL.out; simp only [List.tail_cons] at hT; obtain ⟨L1, hL1⟩ : ∃ M, M = L.tail := ⟨_, rfl⟩; rw [← hL1] at hT; have HL0 := Lib.hid hT; have S1 := S.sub (List.tail_sublist L); rw [← hL1] at S1; have F0 := factsAll HL0 S1; (try simp only [factsOf, cellsFrom, and_true, true_and, Nat.reduceAdd] at F0); clear S1 hL1 hT; refine wp_region_tree (S := fun w' => St w0 w' L1) (.calm 0 (.calm 1 (.calm 2 (.calm 5 (.act 3 (.calm 4 (.act 6 (.calm 7 .fin) .stop)) .stop))))) (by kernel_rfl) (by kernel_rfl) (by kernel_rfl) (by intro c a d v w h; cases d <;> exact h) ?_; replace S := S.drew
  repeat (first | (first | (refine tree_calm (v := ?_) ?_ rfl (by decide +kernel) rfl ?_ ?_; rotate_left; (focus (first | exact S | (refine S.sub (subL HL0 HL ?_); (repeat (first | exact List.Sublist.refl _ | apply List.Sublist.cons)); done))); (focus (intro w' hS'; (try dsimp only at hS'); go_simp; try rfl)); (try simp only [Act.put, List.setIfInBounds_toArray, List.set_cons_zero, List.set_cons_succ])) | (refine tree_any (v := ?_) ?_ rfl rfl ?_ ?_; rotate_left; (focus (first | exact S | (refine S.sub (subL HL0 HL ?_); (repeat (first | exact List.Sublist.refl _ | apply List.Sublist.cons)); done))); (focus (intro w'; go_simp; try rfl)); (try simp only [Act.put, List.setIfInBounds_toArray, List.set_cons_zero, List.set_cons_succ]))) | (refine tree_skip ?_ rfl rfl ?_; (focus (first | exact S | (refine S.sub (subL HL0 HL ?_); (repeat (first | exact List.Sublist.refl _ | apply List.Sublist.cons)); done))); (try simp only [Act.put, List.setIfInBounds_toArray, List.set_cons_zero, List.set_cons_succ])) | (refine tree_act rfl rfl ?_ tree_stop; intro K hK; (refine wp_store_box S _ _ _ rfl 1 _ _ _ _ (atOf HL rfl) rfl _ rfl (by kernel_rfl) rfl rfl ?_; intro w L hM T; clear F S; (try rw [HL.out] at hM); clear HL; (try simp [Act.put, Act.eval, Value.cells, splice] at hM); have HL := Lib.hid hM; clear hM; have S := T; clear T; have F := factsAll HL S; (try simp only [factsOf, cellsFrom, and_true, true_and, Nat.reduceAdd] at F)); (refine hK.out _ _ ?_ ?_; (focus (first | exact fun _ => S | (intro _; refine S.sub (subL HL0 HL ?_); (repeat (first | exact List.Sublist.refl _ | apply List.Sublist.cons)); done) | (refine sink_no ?_; kernel_rfl))); clear hK K; (try simp only [Act.put, List.setIfInBounds_toArray, List.set_cons_zero, List.set_cons_succ]))) | (refine tree_act rfl rfl ?_ tree_stop; intro K hK; go_wp2_with (first | (go_at_call 82; refine (CB _ _ (HU.out.at_ S) (by exact (Sees.row S (by first | exact atOf HL (p := 0) rfl | exact atOf HL (p := 1) rfl | exact atOf HL (p := 2) rfl | exact atOf HL (p := 3) rfl | exact atOf HL (p := 4) rfl | exact atOf HL (p := 5) rfl | exact atOf HL (p := 6) rfl | exact atOf HL (p := 7) rfl | exact atOf HL (p := 8) rfl | exact atOf HL (p := 9) rfl | exact atOf HL (p := 10) rfl | exact atOf HL (p := 11) rfl | exact atOf HL (p := 12) rfl | exact atOf HL (p := 13) rfl | exact atOf HL (p := 14) rfl | exact atOf HL (p := 15) rfl | exact atOf HL (p := 16) rfl | exact atOf HL (p := 17) rfl | exact atOf HL (p := 18) rfl | exact atOf HL (p := 19) rfl | exact atOf HL (p := 20) rfl | exact atOf HL (p := 21) rfl | exact atOf HL (p := 22) rfl | exact atOf HL (p := 23) rfl | exact atOf HL (p := 24) rfl | exact atOf HL (p := 25) rfl | exact atOf HL (p := 26) rfl | exact atOf HL (p := 27) rfl | exact atOf HL (p := 28) rfl | exact atOf HL (p := 29) rfl | exact atOf HL (p := 30) rfl | exact atOf HL (p := 31) rfl | exact atOf HL (p := 32) rfl | exact atOf HL (p := 33) rfl | exact atOf HL (p := 34) rfl | exact atOf HL (p := 35) rfl | exact atOf HL (p := 36) rfl | exact atOf HL (p := 37) rfl | exact atOf HL (p := 38) rfl | exact atOf HL (p := 39) rfl)).ints)).mono ?_; rintro e w ⟨u, rfl, T0⟩; obtain ⟨L, hM, T⟩ := st_name (S.call T0); clear T0; clear F S; (try rw [HL.out] at hM); clear HL; (try simp [Act.put, Act.eval, Value.cells, splice] at hM); have HL := Lib.hid hM; clear hM; have S := T; clear T; have F := factsAll HL S; (try simp only [factsOf, cellsFrom, and_true, true_and, Nat.reduceAdd] at F); obtain ⟨A', cap', rfl, hcap', hmax'⟩ := S.sliceOf (atOf HL (p := 0) rfl))); (refine hK.out _ _ ?_ ?_; (focus (first | exact fun _ => S | (intro _; refine S.sub (subL HL0 HL ?_); (repeat (first | exact List.Sublist.refl _ | apply List.Sublist.cons)); done) | (refine sink_no ?_; kernel_rfl))); clear hK K; (try simp only [Act.put, List.setIfInBounds_toArray, List.set_cons_zero, List.set_cons_succ]))))
  refine tree_fin ?_
  clear HL0 F0
  go_wp2
  refine ret2 rfl (resCell S HL 1 rfl rfl (by kernel_rfl)) (show _ = _ from rfl) rfl ?_
  exact ⟨_, _, rfl, (by rw [HL.out] at S; exact S.sub (by repeat (first | exact .refl _ | exact List.nil_sublist _ | apply List.Sublist.cons_cons | apply List.Sublist.cons)))⟩
end Go.Proofs.Ytdfpceobfficfaa
