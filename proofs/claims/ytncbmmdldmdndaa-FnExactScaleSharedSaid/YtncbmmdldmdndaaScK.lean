/-
  Contracts: ScaleShared: the program's, whole; the reference's where it does not scale.
-/
import Derived.Test.YtncbmmdldmdndaaScJ
namespace Go.Proofs.Ytncbmmdldmdndaa
set_option linter.unusedSimpArgs false
set_option linter.unusedVariables false
set_option linter.unusedSectionVars false
open Go Go.RowKit
set_option maxHeartbeats 8000000
set_option maxRecDepth 20000
/-- What good arguments of ScaleShared are. -/
theorem scale_good {r c : Int} {xs : List Int} {r' c' : Int} {ys : List Int} {rc cc : Int} {us : List Int} {rc' cc' : Int} {vs : List Int} {seed : Int} (hok : scaleOk ⟨⟨r, c, xs⟩, ⟨r', c', ys⟩⟩ ⟨⟨rc, cc, us⟩, ⟨rc', cc', vs⟩⟩ seed = true) :
    ∃ N2 C N : Nat, r = N2 ∧ c = C ∧ rc = N2 ∧ cc = 1 ∧ 1 ≤ N2 ∧ N2 ≤ 5 ∧ 1 ≤ C ∧ C ≤ 5 ∧ N2 * C = N ∧ xs.length = N ∧ ys.length = N ∧ N ≤ 25 ∧ xs.all rv = true ∧ ys.all rv = true ∧ us.length = N2 ∧ vs.length = N2 ∧ us.all rv = true ∧ vs.all rv = true ∧ seedOk seed = true ∧
      likeMx ⟨r, c, xs⟩ ⟨r', c', ys⟩ = true ∧ likeMx ⟨rc, cc, us⟩ ⟨rc', cc', vs⟩ = true ∧
      scaleS ⟨⟨r, c, xs⟩, ⟨r', c', ys⟩⟩ ⟨⟨rc, cc, us⟩, ⟨rc', cc', vs⟩⟩ seed = ⟨⟨⟨N2, C, (Scl.mk xs ys us vs C seed).fir N⟩, ⟨N2, C, (Scl.mk xs ys us vs C seed).sec N⟩⟩, (Scl.mk xs ys us vs C seed).opened N, seedAt seed (5 * N)⟩ := by
  have hok0 := hok
  simp only [scaleOk, SMx.ok, Bool.and_eq_true, decide_eq_true_eq] at hok
  obtain ⟨⟨⟨⟨h1, h2⟩, h3⟩, h4⟩, h5⟩ := hok
  obtain ⟨R, C, N, e1, e2, e3, e4, r1, r2, c1, c2, hRC, hN, hN', hN2, a1, a2⟩ := like_parts h1
  obtain ⟨R2, C2, N2, f1, f2, f3, f4, _, _, _, _, hRC2, hM, hM', _, a3, a4⟩ := like_parts h2
  have hC2 : C2 = 1 := by omega
  have hR2 : R2 = R := by omega
  have hN2R : N2 = R := by rw [← hRC2, hC2, hR2]; omega
  refine ⟨R, C, N, e1, e2, by rw [h5, e1], h4, r1, r2, c1, c2, hRC, hN, hN', hN2, a1, a2, by rw [hM, hN2R], by rw [hM', hN2R], a3, a4, h3, h1, h2, ?_⟩
  rw [scaleS, if_pos hok0]
  dsimp only
  rw [e2, hN, e1]
  rfl
theorem C_impl_ScaleShared (r c : Int) (xs : List Int) (r' c' : Int) (ys : List Int) (u v : Value) (rc cc : Int) (us : List Int) (rc' cc' : Int) (vs : List Int) (p q : Value) (seed : Int) (z : Scd) (w0 : World)
    (hu : Ints w0 u xs) (hv : Ints w0 v ys) (hp : Ints w0 p us) (hq : Ints w0 q vs) (hz : scaleS ⟨⟨r, c, xs⟩, ⟨r', c', ys⟩⟩ ⟨⟨rc, cc, us⟩, ⟨rc', cc', vs⟩⟩ seed = z) :
    Calls Try.prog 49 #[.agg #[.int .i64 r, .int .i64 c, u, .int .i64 r', .int .i64 c', v], .agg #[.int .i64 rc, .int .i64 cc, p, .int .i64 rc', .int .i64 cc', q], .int .i64 seed] w0 (MakesScl w0 z) := by
  by_cases hok : scaleOk ⟨⟨r, c, xs⟩, ⟨r', c', ys⟩⟩ ⟨⟨rc, cc, us⟩, ⟨rc', cc', vs⟩⟩ seed = true
  · obtain ⟨N2, C, N, rfl, rfl, rfl, rfl, r1, r2, c1, c2, hRC, hN, hN', hN2, a1, a2, hM, hM', a3, a4, h3, h1, h2, hs⟩ := scale_good hok
    rw [hs] at hz
    subst hz
    have HU := Lib.hid hu
    have HV := Lib.hid hv
    have HP := Lib.hid hp
    have HQ := Lib.hid hq
    obtain ⟨_, A1, k1, rfl, hk1, hm1, _⟩ := hu
    obtain ⟨_, A2, k2, rfl, hk2, hm2, _⟩ := hv
    obtain ⟨_, A3, k3, rfl, hk3, hm3, _⟩ := hp
    obtain ⟨_, A4, k4, rfl, hk4, hm4, _⟩ := hq
    exact C_impl_Scale_good N2 C N r' c' rc' cc' xs ys us vs A1 A2 A3 A4 k1 k2 k3 k4 seed _ w0 HU HV HP HQ hk1 hm1 hk2 hm2 hk3 hm3 hk4 hm4 r1 r2 c1 c2 hRC hN hN' hN2 a1 a2 hM hM' a3 a4 h3 h1 h2 rfl
  · exact C_impl_Scale_bad r c xs r' c' ys u v rc cc us rc' cc' vs p q seed z w0 hu hv hp hq hok (hz ▸ scaleS_not (by simpa using hok))
theorem St.openScl {w0 w : World} {L : List Ent} {p : Nat} {t : TypeId} {o : Value} (S : St w0 w L) (h : At L p (.row t 1 o 0 [])) : St w0 w [.row t 1 o 0 [], .row t 1 (.slice none 0 0) 0 [], .row t 1 (.slice none 0 0) 0 []] := by
  have T := (S.front h).sub (.cons_cons _ (List.nil_sublist _))
  exact ((T.nilRow t 1).nilRow t 1).front (p := 2) rfl
theorem C_spec_Scale_bad (r c : Int) (xs : List Int) (r' c' : Int) (ys : List Int) (u v : Value) (rc cc : Int) (us : List Int) (rc' cc' : Int) (vs : List Int) (p q : Value) (seed : Int) (w0 : World)
    (hu : Ints w0 u xs) (hv : Ints w0 v ys) (hp : Ints w0 p us) (hq : Ints w0 q vs) (n1 : xs.length ≤ 1048576) (n2 : ys.length ≤ 1048576) (n3 : us.length ≤ 1048576) (n4 : vs.length ≤ 1048576)
    (hok : ¬ scaleOk ⟨⟨r, c, xs⟩, ⟨r', c', ys⟩⟩ ⟨⟨rc, cc, us⟩, ⟨rc', cc', vs⟩⟩ seed = true) :
    Calls Try.prog 48 #[.agg #[.int .i64 r, .int .i64 c, u, .int .i64 r', .int .i64 c', v], .agg #[.int .i64 rc, .int .i64 cc, p, .int .i64 rc', .int .i64 cc', q], .int .i64 seed] w0 (MakesScl w0 ⟨SMx.zero, [], 0⟩) := by
  unfold MakesScl
  have HU := Lib.hid hu
  have HV := Lib.hid hv
  have HP := Lib.hid hp
  have HQ := Lib.hid hq
  obtain ⟨_, A1, k1, rfl, hk1, hm1, _⟩ := hu
  obtain ⟨_, A2, k2, rfl, hk2, hm2, _⟩ := hv
  obtain ⟨_, A3, k3, rfl, hk3, hm3, _⟩ := hp
  obtain ⟨_, A4, k4, rfl, hk4, hm4, _⟩ := hq
  have CV : ∀ w : World, Calls Try.prog 72 #[.int .i64 seed, .int .i64 1, .int .i64 2147483646] w fun e w' => e = .returned (.bool (seedOk seed)) ∧ w = w' := fun w => C_spec_l1In seed 1 2147483646 w
  have CO := fun r c xs r' c' ys u v w h h' n n' => C_l1OwnSharedMatrix r c xs r' c' ys u v w h h' n n'
  unfold MakesSMx at CO
  have hok' : ¬ ((((likeMx ⟨r, c, xs⟩ ⟨r', c', ys⟩ = true ∧ likeMx ⟨rc, cc, us⟩ ⟨rc', cc', vs⟩ = true) ∧ seedOk seed = true) ∧ cc = 1) ∧ rc = r) := by
    intro h
    apply hok
    simp only [scaleOk, SMx.ok, Bool.and_eq_true, decide_eq_true_eq]
    exact h
  clear hok
  obtain ⟨L, HL, S⟩ := st_start w0; have F : True := trivial
  go_enter Try.func48, Try.ntmps48
  go_upto_region 4 with (first | (refine wpList_box rfl S _ _ rfl ?_; intro g w L hM T; clear F S; (try rw [HL.out] at hM); clear HL; (try simp [Act.put, Act.eval, Value.cells, splice] at hM); have HL := Lib.hid hM; clear hM; have S := T; clear T; have F := factsAll HL S; (try simp only [factsOf, cellsFrom, and_true, true_and, Nat.reduceAdd] at F)) | (refine wpList_alloc rfl S 43 _ rfl zSMx ?_; intro g w L hM T; clear F S; (try rw [HL.out] at hM); clear HL; (try simp [Act.put, Act.eval, Value.cells, splice] at hM); have HL := Lib.hid hM; clear hM; have S := T; clear T; have F := factsAll HL S; (try simp only [factsOf, cellsFrom, and_true, true_and, Nat.reduceAdd] at F)) | (refine wpList_empty rfl S _ rfl 3 Try.underlying35 infoInt ?_; intro g w L hM T; clear F S; (try rw [HL.out] at hM); clear HL; (try simp [Act.put, Act.eval, Value.cells, splice] at hM); have HL := Lib.hid hM; clear hM; have S := T; clear T; have F := factsAll HL S; (try simp only [factsOf, cellsFrom, and_true, true_and, Nat.reduceAdd] at F)) | (go_at_call 90; refine (CO _ _ _ _ _ _ _ _ _ (by first | exact HU.out.at_ S | exact HP.out.at_ S) (by first | exact HV.out.at_ S | exact HQ.out.at_ S) (by first | exact n1 | exact n3) (by first | exact n2 | exact n4)).mono ?_; rintro e w ⟨u, v, rfl, T0⟩; obtain ⟨L, hM, T⟩ := st_name (S.call T0); clear T0; clear F S; (try rw [HL.out] at hM); clear HL; (try simp [Act.put, Act.eval, Value.cells, splice] at hM); have HL := Lib.hid hM; clear hM; have S := T; clear T; have F := factsAll HL S; (try simp only [factsOf, cellsFrom, and_true, true_and, Nat.reduceAdd] at F); obtain ⟨A', cap', rfl, hcap', hmax'⟩ := S.sliceOf (atOf HL (p := 0) rfl); obtain ⟨A', cap', rfl, hcap', hmax'⟩ := S.sliceOf (atOf HL (p := 1) rfl)) | (refine wpList_store_box rfl S _ _ _ rfl 2 _ _ _ _ (atOf HL rfl) rfl _ rfl (by kernel_rfl) rfl rfl ?_; intro w L hM T; clear F S; (try rw [HL.out] at hM); clear HL; (try simp [Act.put, Act.eval, Value.cells, splice] at hM); have HL := Lib.hid hM; clear hM; have S := T; clear T; have F := factsAll HL S; (try simp only [factsOf, cellsFrom, and_true, true_and, Nat.reduceAdd] at F)) | (refine wpList_store_box rfl S _ _ _ rfl 3 _ _ _ _ (atOf HL rfl) rfl _ rfl (by kernel_rfl) rfl rfl ?_; intro w L hM T; clear F S; (try rw [HL.out] at hM); clear HL; (try simp [Act.put, Act.eval, Value.cells, splice] at hM); have HL := Lib.hid hM; clear hM; have S := T; clear T; have F := factsAll HL S; (try simp only [factsOf, cellsFrom, and_true, true_and, Nat.reduceAdd] at F)) | (refine wpList_store_box rfl S _ _ _ rfl 4 _ _ _ _ (atOf HL rfl) rfl _ rfl (by kernel_rfl) rfl rfl ?_; intro w L hM T; clear F S; (try rw [HL.out] at hM); clear HL; (try simp [Act.put, Act.eval, Value.cells, splice] at hM); have HL := Lib.hid hM; clear hM; have S := T; clear T; have F := factsAll HL S; (try simp only [factsOf, cellsFrom, and_true, true_and, Nat.reduceAdd] at F)) | (refine wpList_store_box rfl S _ _ _ rfl 5 _ _ _ _ (atOf HL rfl) rfl _ rfl (by kernel_rfl) rfl rfl ?_; intro w L hM T; clear F S; (try rw [HL.out] at hM); clear HL; (try simp [Act.put, Act.eval, Value.cells, splice] at hM); have HL := Lib.hid hM; clear hM; have S := T; clear T; have F := factsAll HL S; (try simp only [factsOf, cellsFrom, and_true, true_and, Nat.reduceAdd] at F)))
  clear CO
  cases h1 : likeMx ⟨r, c, xs⟩ ⟨r', c', ys⟩ with
  | false =>
    clear hok'
    go_upto_region 5 with (first | (go_at_call 91; refine (C_spec_SharedMatrixValid _ _ _ _ _ _ _ _ _ _ (by exact (Sees.row S (by first | exact atOf HL (p := 0) rfl | exact atOf HL (p := 1) rfl | exact atOf HL (p := 2) rfl | exact atOf HL (p := 3) rfl | exact atOf HL (p := 4) rfl | exact atOf HL (p := 5) rfl | exact atOf HL (p := 6) rfl | exact atOf HL (p := 7) rfl | exact atOf HL (p := 8) rfl | exact atOf HL (p := 9) rfl | exact atOf HL (p := 10) rfl | exact atOf HL (p := 11) rfl | exact atOf HL (p := 12) rfl | exact atOf HL (p := 13) rfl | exact atOf HL (p := 14) rfl | exact atOf HL (p := 15) rfl | exact atOf HL (p := 16) rfl | exact atOf HL (p := 17) rfl | exact atOf HL (p := 18) rfl | exact atOf HL (p := 19) rfl | exact atOf HL (p := 20) rfl | exact atOf HL (p := 21) rfl | exact atOf HL (p := 22) rfl | exact atOf HL (p := 23) rfl | exact atOf HL (p := 24) rfl | exact atOf HL (p := 25) rfl)).ints) (by exact (Sees.row S (by first | exact atOf HL (p := 0) rfl | exact atOf HL (p := 1) rfl | exact atOf HL (p := 2) rfl | exact atOf HL (p := 3) rfl | exact atOf HL (p := 4) rfl | exact atOf HL (p := 5) rfl | exact atOf HL (p := 6) rfl | exact atOf HL (p := 7) rfl | exact atOf HL (p := 8) rfl | exact atOf HL (p := 9) rfl | exact atOf HL (p := 10) rfl | exact atOf HL (p := 11) rfl | exact atOf HL (p := 12) rfl | exact atOf HL (p := 13) rfl | exact atOf HL (p := 14) rfl | exact atOf HL (p := 15) rfl | exact atOf HL (p := 16) rfl | exact atOf HL (p := 17) rfl | exact atOf HL (p := 18) rfl | exact atOf HL (p := 19) rfl | exact atOf HL (p := 20) rfl | exact atOf HL (p := 21) rfl | exact atOf HL (p := 22) rfl | exact atOf HL (p := 23) rfl | exact atOf HL (p := 24) rfl | exact atOf HL (p := 25) rfl)).ints) (by exact h1)).mono ?_; rintro e w ⟨rfl, hb⟩; replace S := S.grow hb; clear hb))
    go_wp2_with (first | (refine wpList_store_box rfl S _ _ _ rfl 5 _ _ _ _ (atOf HL rfl) rfl _ rfl (by kernel_rfl) rfl rfl ?_; intro w L hM T; clear F S; (try rw [HL.out] at hM); clear HL; (try simp [Act.put, Act.eval, Value.cells, splice] at hM); have HL := Lib.hid hM; clear hM; have S := T; clear T; have F := factsAll HL S; (try simp only [factsOf, cellsFrom, and_true, true_and, Nat.reduceAdd] at F)))
    refine ret3 rfl (resCell S HL 5 rfl rfl (by kernel_rfl)) (show _ = _ from rfl) (show _ = _ from rfl) rfl ?_
    exact ⟨_, _, _, rfl, S.openScl (p := 0) (atOf HL rfl)⟩
  | true =>
  cases h2 : likeMx ⟨rc, cc, us⟩ ⟨rc', cc', vs⟩ with
  | false =>
    clear hok'
    go_upto_region 5 with (first | (go_at_call 91; refine (C_spec_SharedMatrixValid _ _ _ _ _ _ _ _ _ _ (by exact (Sees.row S (by first | exact atOf HL (p := 0) rfl | exact atOf HL (p := 1) rfl | exact atOf HL (p := 2) rfl | exact atOf HL (p := 3) rfl | exact atOf HL (p := 4) rfl | exact atOf HL (p := 5) rfl | exact atOf HL (p := 6) rfl | exact atOf HL (p := 7) rfl | exact atOf HL (p := 8) rfl | exact atOf HL (p := 9) rfl | exact atOf HL (p := 10) rfl | exact atOf HL (p := 11) rfl | exact atOf HL (p := 12) rfl | exact atOf HL (p := 13) rfl | exact atOf HL (p := 14) rfl | exact atOf HL (p := 15) rfl | exact atOf HL (p := 16) rfl | exact atOf HL (p := 17) rfl | exact atOf HL (p := 18) rfl | exact atOf HL (p := 19) rfl | exact atOf HL (p := 20) rfl | exact atOf HL (p := 21) rfl | exact atOf HL (p := 22) rfl | exact atOf HL (p := 23) rfl | exact atOf HL (p := 24) rfl | exact atOf HL (p := 25) rfl)).ints) (by exact (Sees.row S (by first | exact atOf HL (p := 0) rfl | exact atOf HL (p := 1) rfl | exact atOf HL (p := 2) rfl | exact atOf HL (p := 3) rfl | exact atOf HL (p := 4) rfl | exact atOf HL (p := 5) rfl | exact atOf HL (p := 6) rfl | exact atOf HL (p := 7) rfl | exact atOf HL (p := 8) rfl | exact atOf HL (p := 9) rfl | exact atOf HL (p := 10) rfl | exact atOf HL (p := 11) rfl | exact atOf HL (p := 12) rfl | exact atOf HL (p := 13) rfl | exact atOf HL (p := 14) rfl | exact atOf HL (p := 15) rfl | exact atOf HL (p := 16) rfl | exact atOf HL (p := 17) rfl | exact atOf HL (p := 18) rfl | exact atOf HL (p := 19) rfl | exact atOf HL (p := 20) rfl | exact atOf HL (p := 21) rfl | exact atOf HL (p := 22) rfl | exact atOf HL (p := 23) rfl | exact atOf HL (p := 24) rfl | exact atOf HL (p := 25) rfl)).ints) (by first | exact h1 | exact h2)).mono ?_; rintro e w ⟨rfl, hb⟩; replace S := S.grow hb; clear hb))
    go_wp2_with (first | (refine wpList_store_box rfl S _ _ _ rfl 5 _ _ _ _ (atOf HL rfl) rfl _ rfl (by kernel_rfl) rfl rfl ?_; intro w L hM T; clear F S; (try rw [HL.out] at hM); clear HL; (try simp [Act.put, Act.eval, Value.cells, splice] at hM); have HL := Lib.hid hM; clear hM; have S := T; clear T; have F := factsAll HL S; (try simp only [factsOf, cellsFrom, and_true, true_and, Nat.reduceAdd] at F)))
    refine ret3 rfl (resCell S HL 5 rfl rfl (by kernel_rfl)) (show _ = _ from rfl) (show _ = _ from rfl) rfl ?_
    exact ⟨_, _, _, rfl, S.openScl (p := 0) (atOf HL rfl)⟩
  | true =>
  have H1 := Lib.hid h1
  have H2 := Lib.hid h2
  rw [h1, h2] at hok'
  clear h1 h2
  by_cases h4 : cc = 1
  · subst h4
    by_cases h5 : rc = r
    · subst h5
      have h3 : seedOk seed = false := by
        cases h3 : seedOk seed with
        | false => rfl
        | true => exact absurd ⟨⟨⟨⟨rfl, rfl⟩, h3⟩, rfl⟩, rfl⟩ hok'
      rw [h3] at CV
      clear hok' h3
      go_upto_region 5 with (first | (go_at_call 72; refine (CV _).mono ?_; rintro e w' ⟨rfl, rfl⟩) | (go_at_call 91; refine (C_spec_SharedMatrixValid _ _ _ _ _ _ _ _ _ _ (by exact (Sees.row S (by first | exact atOf HL (p := 0) rfl | exact atOf HL (p := 1) rfl | exact atOf HL (p := 2) rfl | exact atOf HL (p := 3) rfl | exact atOf HL (p := 4) rfl | exact atOf HL (p := 5) rfl | exact atOf HL (p := 6) rfl | exact atOf HL (p := 7) rfl | exact atOf HL (p := 8) rfl | exact atOf HL (p := 9) rfl | exact atOf HL (p := 10) rfl | exact atOf HL (p := 11) rfl | exact atOf HL (p := 12) rfl | exact atOf HL (p := 13) rfl | exact atOf HL (p := 14) rfl | exact atOf HL (p := 15) rfl | exact atOf HL (p := 16) rfl | exact atOf HL (p := 17) rfl | exact atOf HL (p := 18) rfl | exact atOf HL (p := 19) rfl | exact atOf HL (p := 20) rfl | exact atOf HL (p := 21) rfl | exact atOf HL (p := 22) rfl | exact atOf HL (p := 23) rfl | exact atOf HL (p := 24) rfl | exact atOf HL (p := 25) rfl)).ints) (by exact (Sees.row S (by first | exact atOf HL (p := 0) rfl | exact atOf HL (p := 1) rfl | exact atOf HL (p := 2) rfl | exact atOf HL (p := 3) rfl | exact atOf HL (p := 4) rfl | exact atOf HL (p := 5) rfl | exact atOf HL (p := 6) rfl | exact atOf HL (p := 7) rfl | exact atOf HL (p := 8) rfl | exact atOf HL (p := 9) rfl | exact atOf HL (p := 10) rfl | exact atOf HL (p := 11) rfl | exact atOf HL (p := 12) rfl | exact atOf HL (p := 13) rfl | exact atOf HL (p := 14) rfl | exact atOf HL (p := 15) rfl | exact atOf HL (p := 16) rfl | exact atOf HL (p := 17) rfl | exact atOf HL (p := 18) rfl | exact atOf HL (p := 19) rfl | exact atOf HL (p := 20) rfl | exact atOf HL (p := 21) rfl | exact atOf HL (p := 22) rfl | exact atOf HL (p := 23) rfl | exact atOf HL (p := 24) rfl | exact atOf HL (p := 25) rfl)).ints) (by first | exact H1.out | exact H2.out)).mono ?_; rintro e w ⟨rfl, hb⟩; replace S := S.grow hb; clear hb))
      go_wp2_with (first | (refine wpList_store_box rfl S _ _ _ rfl 5 _ _ _ _ (atOf HL rfl) rfl _ rfl (by kernel_rfl) rfl rfl ?_; intro w L hM T; clear F S; (try rw [HL.out] at hM); clear HL; (try simp [Act.put, Act.eval, Value.cells, splice] at hM); have HL := Lib.hid hM; clear hM; have S := T; clear T; have F := factsAll HL S; (try simp only [factsOf, cellsFrom, and_true, true_and, Nat.reduceAdd] at F)))
      refine ret3 rfl (resCell S HL 5 rfl rfl (by kernel_rfl)) (show _ = _ from rfl) (show _ = _ from rfl) rfl ?_
      exact ⟨_, _, _, rfl, S.openScl (p := 0) (atOf HL rfl)⟩
    · clear hok'
      have hne : (rc == r) = false := by rw [beq_eq_false_iff_ne]; exact h5
      go_upto_region 5 with (first | (go_at_call 91; refine (C_spec_SharedMatrixValid _ _ _ _ _ _ _ _ _ _ (by exact (Sees.row S (by first | exact atOf HL (p := 0) rfl | exact atOf HL (p := 1) rfl | exact atOf HL (p := 2) rfl | exact atOf HL (p := 3) rfl | exact atOf HL (p := 4) rfl | exact atOf HL (p := 5) rfl | exact atOf HL (p := 6) rfl | exact atOf HL (p := 7) rfl | exact atOf HL (p := 8) rfl | exact atOf HL (p := 9) rfl | exact atOf HL (p := 10) rfl | exact atOf HL (p := 11) rfl | exact atOf HL (p := 12) rfl | exact atOf HL (p := 13) rfl | exact atOf HL (p := 14) rfl | exact atOf HL (p := 15) rfl | exact atOf HL (p := 16) rfl | exact atOf HL (p := 17) rfl | exact atOf HL (p := 18) rfl | exact atOf HL (p := 19) rfl | exact atOf HL (p := 20) rfl | exact atOf HL (p := 21) rfl | exact atOf HL (p := 22) rfl | exact atOf HL (p := 23) rfl | exact atOf HL (p := 24) rfl | exact atOf HL (p := 25) rfl)).ints) (by exact (Sees.row S (by first | exact atOf HL (p := 0) rfl | exact atOf HL (p := 1) rfl | exact atOf HL (p := 2) rfl | exact atOf HL (p := 3) rfl | exact atOf HL (p := 4) rfl | exact atOf HL (p := 5) rfl | exact atOf HL (p := 6) rfl | exact atOf HL (p := 7) rfl | exact atOf HL (p := 8) rfl | exact atOf HL (p := 9) rfl | exact atOf HL (p := 10) rfl | exact atOf HL (p := 11) rfl | exact atOf HL (p := 12) rfl | exact atOf HL (p := 13) rfl | exact atOf HL (p := 14) rfl | exact atOf HL (p := 15) rfl | exact atOf HL (p := 16) rfl | exact atOf HL (p := 17) rfl | exact atOf HL (p := 18) rfl | exact atOf HL (p := 19) rfl | exact atOf HL (p := 20) rfl | exact atOf HL (p := 21) rfl | exact atOf HL (p := 22) rfl | exact atOf HL (p := 23) rfl | exact atOf HL (p := 24) rfl | exact atOf HL (p := 25) rfl)).ints) (by first | exact H1.out | exact H2.out)).mono ?_; rintro e w ⟨rfl, hb⟩; replace S := S.grow hb; clear hb))
      go_wp2_with (first | (refine wpList_store_box rfl S _ _ _ rfl 5 _ _ _ _ (atOf HL rfl) rfl _ rfl (by kernel_rfl) rfl rfl ?_; intro w L hM T; clear F S; (try rw [HL.out] at hM); clear HL; (try simp [Act.put, Act.eval, Value.cells, splice] at hM); have HL := Lib.hid hM; clear hM; have S := T; clear T; have F := factsAll HL S; (try simp only [factsOf, cellsFrom, and_true, true_and, Nat.reduceAdd] at F)))
      refine ret3 rfl (resCell S HL 5 rfl rfl (by kernel_rfl)) (show _ = _ from rfl) (show _ = _ from rfl) rfl ?_
      exact ⟨_, _, _, rfl, S.openScl (p := 0) (atOf HL rfl)⟩
  · clear hok'
    have hne : (cc == 1) = false := by rw [beq_eq_false_iff_ne]; exact h4
    go_upto_region 5 with (first | (go_at_call 91; refine (C_spec_SharedMatrixValid _ _ _ _ _ _ _ _ _ _ (by exact (Sees.row S (by first | exact atOf HL (p := 0) rfl | exact atOf HL (p := 1) rfl | exact atOf HL (p := 2) rfl | exact atOf HL (p := 3) rfl | exact atOf HL (p := 4) rfl | exact atOf HL (p := 5) rfl | exact atOf HL (p := 6) rfl | exact atOf HL (p := 7) rfl | exact atOf HL (p := 8) rfl | exact atOf HL (p := 9) rfl | exact atOf HL (p := 10) rfl | exact atOf HL (p := 11) rfl | exact atOf HL (p := 12) rfl | exact atOf HL (p := 13) rfl | exact atOf HL (p := 14) rfl | exact atOf HL (p := 15) rfl | exact atOf HL (p := 16) rfl | exact atOf HL (p := 17) rfl | exact atOf HL (p := 18) rfl | exact atOf HL (p := 19) rfl | exact atOf HL (p := 20) rfl | exact atOf HL (p := 21) rfl | exact atOf HL (p := 22) rfl | exact atOf HL (p := 23) rfl | exact atOf HL (p := 24) rfl | exact atOf HL (p := 25) rfl)).ints) (by exact (Sees.row S (by first | exact atOf HL (p := 0) rfl | exact atOf HL (p := 1) rfl | exact atOf HL (p := 2) rfl | exact atOf HL (p := 3) rfl | exact atOf HL (p := 4) rfl | exact atOf HL (p := 5) rfl | exact atOf HL (p := 6) rfl | exact atOf HL (p := 7) rfl | exact atOf HL (p := 8) rfl | exact atOf HL (p := 9) rfl | exact atOf HL (p := 10) rfl | exact atOf HL (p := 11) rfl | exact atOf HL (p := 12) rfl | exact atOf HL (p := 13) rfl | exact atOf HL (p := 14) rfl | exact atOf HL (p := 15) rfl | exact atOf HL (p := 16) rfl | exact atOf HL (p := 17) rfl | exact atOf HL (p := 18) rfl | exact atOf HL (p := 19) rfl | exact atOf HL (p := 20) rfl | exact atOf HL (p := 21) rfl | exact atOf HL (p := 22) rfl | exact atOf HL (p := 23) rfl | exact atOf HL (p := 24) rfl | exact atOf HL (p := 25) rfl)).ints) (by first | exact H1.out | exact H2.out)).mono ?_; rintro e w ⟨rfl, hb⟩; replace S := S.grow hb; clear hb))
    go_wp2_with (first | (refine wpList_store_box rfl S _ _ _ rfl 5 _ _ _ _ (atOf HL rfl) rfl _ rfl (by kernel_rfl) rfl rfl ?_; intro w L hM T; clear F S; (try rw [HL.out] at hM); clear HL; (try simp [Act.put, Act.eval, Value.cells, splice] at hM); have HL := Lib.hid hM; clear hM; have S := T; clear T; have F := factsAll HL S; (try simp only [factsOf, cellsFrom, and_true, true_and, Nat.reduceAdd] at F)))
    refine ret3 rfl (resCell S HL 5 rfl rfl (by kernel_rfl)) (show _ = _ from rfl) (show _ = _ from rfl) rfl ?_
    exact ⟨_, _, _, rfl, S.openScl (p := 0) (atOf HL rfl)⟩
end Go.Proofs.Ytncbmmdldmdndaa
