/-
  Contracts: what mixing makes of a matrix (the program's).
-/
import Derived.Test.YtdfpceobfficfaaMulJ
import Derived.Test.YtdfpceobfficfaaLyS
namespace Go.Proofs.Ytdfpceobfficfaa
set_option linter.unusedSimpArgs false
set_option linter.unusedVariables false
set_option linter.unusedSectionVars false
open Go Go.RowKit
set_option maxHeartbeats 8000000
set_option maxRecDepth 20000
/-- The values of a cut product. -/
def cutV (xs ys : List Int) (R C D : Nat) : List Int := tab (R * D) (mapV 1 (tab (R * D) (mulAt xs ys C D)))
theorem cutV_len (xs ys : List Int) (R C D : Nat) : (cutV xs ys R C D).length = R * D := tab_length _ _
theorem cutV_all (xs ys : List Int) (R C D : Nat) : (cutV xs ys R C D).all rv = true := tab_all fun q _ => fnAt_rv (getD_rv (tab_all fun q _ => rv_ro _) q)
theorem cutMul_eq (xs ys : List Int) (R C D : Nat) : cutMul ⟨R, C, xs⟩ ⟨C, D, ys⟩ = ⟨R, D, cutV xs ys R C D⟩ := by
  show (⟨(R : Int), (D : Int), tab (tab (R * D) _).length _⟩ : Mx) = _
  rw [tab_length]
  rfl
def mixV (gs bs : List Int) (X q : Nat) : Int := cutR (mulR (gs.getD q 0) (bs.getD (q / X) 0))
def mapL (k : Int) (xs : List Int) : List Int := tab xs.length (mapV k xs)
theorem mapL_all {k : Int} {xs : List Int} (h : xs.all rv = true) : (mapL k xs).all rv = true := tab_all fun q _ => fnAt_rv (getD_rv h q)
theorem mapL_len (k : Int) (xs : List Int) : (mapL k xs).length = xs.length := tab_length _ _
theorem sumV_all (xs : List Int) (C n : Nat) : (tab n (sumV xs C)).all rv = true := tab_all fun q _ => rv_ro _
theorem turn_all' {R C : Nat} {xs : List Int} (h : xs.all rv = true) : (tab (C * R) (turnV R C xs)).all rv = true := tab_all fun q _ => getD_rv h _
/-- What mixing makes, in lists. -/
def mixL (a b c xs : List Int) (X Y : Nat) : List Int :=
  cutV (tab (X * X) (mixV (mapL 4 (cutV (cutV xs a X Y Y) (tab (Y * X) (turnV X Y (cutV xs b X Y Y))) X Y X)) (mapL 5 (tab X (sumV (mapL 4 (cutV (cutV xs a X Y Y) (tab (Y * X) (turnV X Y (cutV xs b X Y Y))) X Y X)) X))) X)) (cutV xs c X Y Y) X X Y
theorem mixRun_eq {a b c xs : List Int} {X Y : Nat} (x1 : 1 ≤ X) (x2 : X ≤ 5) (y1 : 1 ≤ Y) (y2 : Y ≤ 5) (hl : xs.length = X * Y) (hx : xs.all rv = true) : mixRun ⟨Y, Y, a⟩ ⟨Y, Y, b⟩ ⟨Y, Y, c⟩ ⟨X, Y, xs⟩ = ⟨X, Y, mixL a b c xs X Y⟩ := by
  have ok : (Mx.mk X Y (cutV xs b X Y Y)).ok = true := Mx.ok_of x1 x2 y1 y2 (cutV_len _ _ _ _ _) (cutV_all _ _ _ _ _)
  have eg : mixG ⟨Y, Y, a⟩ ⟨Y, Y, b⟩ ⟨X, Y, xs⟩ = ⟨X, X, mapL 4 (cutV (cutV xs a X Y Y) (tab (Y * X) (turnV X Y (cutV xs b X Y Y))) X Y X)⟩ := by
    unfold mixG
    rw [cutMul_eq, cutMul_eq, turnMx_ok ok, cutMul_eq]
    rfl
  unfold mixRun
  rw [eg, cutMul_eq]
  generalize hg : mapL 4 (cutV (cutV xs a X Y Y) (tab (Y * X) (turnV X Y (cutV xs b X Y Y))) X Y X) = gs
  have hgl : gs.length = X * X := by rw [← hg, mapL_len, cutV_len]
  have eh : mixH ⟨X, X, gs⟩ = ⟨X, X, tab (X * X) (mixV gs (mapL 5 (tab X (sumV gs X))) X)⟩ := by
    show (⟨(X : Int), (X : Int), tab (tab gs.length (scaleV gs (mapL 5 (tab X (sumV gs X))) X)).length (mapV 1 (tab gs.length (scaleV gs (mapL 5 (tab X (sumV gs X))) X)))⟩ : Mx) = _
    rw [tab_length, hgl]
    congr 1
    refine tab_congr _ _ _ fun q hq => ?_
    unfold mapV
    rw [tab_getD _ _ _ hq]
    rfl
  rw [eh, cutMul_eq]
  unfold mixL
  rw [hg]
theorem C_cutProduct (R C D : Nat) (xs ys zs : List Int) (u v : Value) (w0 : World) (h : Ints w0 u xs) (h' : Ints w0 v ys) (hz : cutV xs ys R C D = zs) (r1 : 1 ≤ R) (r2 : R ≤ 5) (c1 : 1 ≤ C) (c2 : C ≤ 5) (d1 : 1 ≤ D) (d2 : D ≤ 5) (hl : xs.length = R * C) (hl' : ys.length = C * D) (a1 : xs.all rv = true) (a2 : ys.all rv = true) :
    Calls Try.prog 155 #[.agg #[.int .i64 R, .int .i64 C, u], .agg #[.int .i64 C, .int .i64 D, v]] w0 (MakesMx w0 R D zs) := by
  have hzl : zs.length = R * D := by rw [← hz]; exact cutV_len _ _ _ _ _
  have CM := fun u v w h h' => C_impl_Mul R C D xs ys u v w h h' r1 r2 c1 c2 d1 d2 hl hl' a1 a2
  have CP := fun u w h => C_impl_Map 1 R D (tab (R * D) (mulAt xs ys C D)) u w h (.inl rfl) r1 r2 d1 d2 (tab_length _ _) (tab_all fun q _ => rv_ro _)
  unfold MakesMx at CM CP ⊢
  rw [tab_length] at CM CP
  rw [tab_length] at CP
  have HU := Lib.hid h
  have HV := Lib.hid h'
  obtain ⟨_, A1, k1, rfl, hk1, hm1, _⟩ := h
  obtain ⟨_, A2, k2, rfl, hk2, hm2, _⟩ := h'
  have HZ := Lib.hid hz
  have HZL := Lib.hid hzl
  clear hz hzl hl hl' a1 a2
  obtain ⟨N, hN⟩ : ∃ N, R * D = N := ⟨_, rfl⟩
  obtain ⟨ms, hms⟩ : ∃ ms, tab (R * D) (mulAt xs ys C D) = ms := ⟨_, rfl⟩
  have hml : ms.length = R * D := by rw [← hms]; exact tab_length _ _
  have hzs : tab (R * D) (mapV 1 ms) = zs := by rw [← hms]; exact HZ.out
  rw [hms] at CM CP
  rw [hzs] at CP
  rw [hN] at CM CP hml HZL
  have CP' := fun u w (h : Sees w 1 u N (ints ms)) => CP u w (by unfold Ints; rw [hml]; exact h)
  clear hms hzs HZ CP
  obtain ⟨L, HL, S⟩ := st_start w0; have F : True := trivial
  go_enter Try.func155, Try.ntmps155
  go_upto_region 1 with (first | (refine wpList_box (o := { dst := some 2, op := _, type := _, pos := _, after := _, guard := _ }) rfl S _ _ rfl ?_; intro ga w L hM T; clear F S; (try rw [HL.out] at hM); clear HL; (try simp [Act.put, Act.eval, Value.cells, splice] at hM); have HL := Lib.hid hM; clear hM; have S := T; clear T; have F := factsAll HL S; (try simp only [factsOf, cellsFrom, and_true, true_and, Nat.reduceAdd] at F)) | (refine wpList_box (o := { dst := some 3, op := _, type := _, pos := _, after := _, guard := _ }) rfl S _ _ rfl ?_; intro gb w L hM T; clear F S; (try rw [HL.out] at hM); clear HL; (try simp [Act.put, Act.eval, Value.cells, splice] at hM); have HL := Lib.hid hM; clear hM; have S := T; clear T; have F := factsAll HL S; (try simp only [factsOf, cellsFrom, and_true, true_and, Nat.reduceAdd] at F)) | (refine wpList_alloc rfl S 55 _ rfl zMx ?_; intro gr w L hM T; clear F S; (try rw [HL.out] at hM); clear HL; (try simp [Act.put, Act.eval, Value.cells, splice] at hM); have HL := Lib.hid hM; clear hM; have S := T; clear T; have F := factsAll HL S; (try simp only [factsOf, cellsFrom, and_true, true_and, Nat.reduceAdd] at F)))
  go_wp2_with (first | (go_at_call 158; refine (CM _ _ _ (HU.out.at_ S) (HV.out.at_ S)).mono ?_; rintro e w ⟨u, rfl, T0⟩; obtain ⟨L, hM, T⟩ := st_name (S.call T0); clear T0; clear F S; (try rw [HL.out] at hM); clear HL; (try simp [Act.put, Act.eval, Value.cells, splice] at hM); have HL := Lib.hid hM; clear hM; have S := T; clear T; have F := factsAll HL S; (try simp only [factsOf, cellsFrom, and_true, true_and, Nat.reduceAdd] at F); obtain ⟨A', cap', rfl, hcap', hmax'⟩ := S.sliceOf (atOf HL (p := 0) rfl)) | (go_at_call 157; refine (CP' _ _ (Sees.row S (by first | exact atOf HL (p := 0) rfl | exact atOf HL (p := 1) rfl | exact atOf HL (p := 2) rfl | exact atOf HL (p := 3) rfl | exact atOf HL (p := 4) rfl | exact atOf HL (p := 5) rfl | exact atOf HL (p := 6) rfl | exact atOf HL (p := 7) rfl | exact atOf HL (p := 8) rfl | exact atOf HL (p := 9) rfl | exact atOf HL (p := 10) rfl | exact atOf HL (p := 11) rfl | exact atOf HL (p := 12) rfl | exact atOf HL (p := 13) rfl | exact atOf HL (p := 14) rfl | exact atOf HL (p := 15) rfl | exact atOf HL (p := 16) rfl | exact atOf HL (p := 17) rfl | exact atOf HL (p := 18) rfl | exact atOf HL (p := 19) rfl | exact atOf HL (p := 20) rfl | exact atOf HL (p := 21) rfl | exact atOf HL (p := 22) rfl | exact atOf HL (p := 23) rfl | exact atOf HL (p := 24) rfl | exact atOf HL (p := 25) rfl | exact atOf HL (p := 26) rfl | exact atOf HL (p := 27) rfl | exact atOf HL (p := 28) rfl | exact atOf HL (p := 29) rfl | exact atOf HL (p := 30) rfl | exact atOf HL (p := 31) rfl | exact atOf HL (p := 32) rfl | exact atOf HL (p := 33) rfl | exact atOf HL (p := 34) rfl | exact atOf HL (p := 35) rfl | exact atOf HL (p := 36) rfl | exact atOf HL (p := 37) rfl | exact atOf HL (p := 38) rfl | exact atOf HL (p := 39) rfl))).mono ?_; rintro e w ⟨u, rfl, T0⟩; obtain ⟨L, hM, T⟩ := st_name (S.call T0); clear T0; clear F S; (try rw [HL.out] at hM); clear HL; (try simp [Act.put, Act.eval, Value.cells, splice] at hM); have HL := Lib.hid hM; clear hM; have S := T; clear T; have F := factsAll HL S; (try simp only [factsOf, cellsFrom, and_true, true_and, Nat.reduceAdd] at F); obtain ⟨A', cap', rfl, hcap', hmax'⟩ := S.sliceOf (atOf HL (p := 0) rfl)) | (refine wpList_store_box rfl S _ _ _ rfl 2 _ _ _ _ (atOf HL rfl) rfl _ rfl (by kernel_rfl) rfl rfl ?_; intro w L hM T; clear F S; (try rw [HL.out] at hM); clear HL; (try simp [Act.put, Act.eval, Value.cells, splice] at hM); have HL := Lib.hid hM; clear hM; have S := T; clear T; have F := factsAll HL S; (try simp only [factsOf, cellsFrom, and_true, true_and, Nat.reduceAdd] at F)))
  ((try simp only [Exit.inBlock, Exit.then]); refine ret1 rfl (resCell S HL 2 rfl rfl (by kernel_rfl)) rfl ?_)
  rw [HZL.out]
  exact ⟨_, rfl, (by rw [HL.out] at S; exact S.sub (by repeat (first | exact .refl _ | exact List.nil_sublist _ | apply List.Sublist.cons_cons | apply List.Sublist.cons)))⟩
end Go.Proofs.Ytdfpceobfficfaa
