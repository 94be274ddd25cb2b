/- ScK MatW TurnP MulJ SmP -/
import Derived.Test.YtjgfjfjboimgdaaGreatY12
import Derived.Test.YtjgfjfjboimgdaaGreatY18
namespace Go.Proofs.YtjgfjfjboimgdaaGreat
set_option linter.unusedSimpArgs false
set_option linter.unusedVariables false
set_option linter.unusedSectionVars false
open Go Go.RowKit
set_option maxHeartbeats 8000000
set_option maxRecDepth 20000
section
theorem scale_good {r c : Int} {xs : List Int} {r' c' : Int} {ys : List Int} {rc cc : Int} {us : List Int} {rc' cc' : Int} {vs : List Int} {seed : Int} (hok : scaleOk ⟨⟨r, c, xs⟩, ⟨r', c', ys⟩⟩ ⟨⟨rc, cc, us⟩, ⟨rc', cc', vs⟩⟩ seed = true) :
    ∃ N2 C N : Nat, r = N2 ∧ c = C ∧ rc = N2 ∧ cc = 1 ∧ 1 ≤ N2 ∧ N2 ≤ 5 ∧ 1 ≤ C ∧ C ≤ 5 ∧ N2 * C = N ∧ xs.length = N ∧ ys.length = N ∧ N ≤ 25 ∧ xs.all rv = true ∧ ys.all rv = true ∧ us.length = N2 ∧ vs.length = N2 ∧ us.all rv = true ∧ vs.all rv = true ∧ seedOk seed = true ∧
      likeMx ⟨r, c, xs⟩ ⟨r', c', ys⟩ = true ∧ likeMx ⟨rc, cc, us⟩ ⟨rc', cc', vs⟩ = true ∧
      scaleS ⟨⟨r, c, xs⟩, ⟨r', c', ys⟩⟩ ⟨⟨rc, cc, us⟩, ⟨rc', cc', vs⟩⟩ seed = ⟨⟨⟨N2, C, (Scl.mk xs ys us vs C seed).fir N⟩, ⟨N2, C, (Scl.mk xs ys us vs C seed).sec N⟩⟩, (Scl.mk xs ys us vs C seed).opened N, seedAt seed (5 * N)⟩ := by
  have hok0 := hok
  simp only [scaleOk, SMx.ok, Bool.and_eq_true, decide_eq_true_eq] at hok
  obtain ⟨⟨⟨⟨h1, h2⟩, h3⟩, h4⟩, h5⟩ := hok
  obtain ⟨R, C, N, e1, e2, e3, e4, r1, r2, c1, c2, hRC, hN, hN', hN2, a1, a2⟩ := like_parts h1
  obtain ⟨R2, C2, N2, f1, f2, f3, f4, _, _, _, _, hRC2, hM, hM', _, a3, a4⟩ := like_parts h2
  have hC2 : C2 = 1 := by omega
  have hR2 : R2 = R := by omega
  have hN2R : N2 = R := by rw [← hRC2, hC2, hR2]; omega
  refine ⟨R, C, N, e1, e2, by rw [h5, e1], h4, r1, r2, c1, c2, hRC, hN, hN', hN2, a1, a2, by rw [hM, hN2R], by rw [hM', hN2R], a3, a4, h3, h1, h2, ?_⟩
  rw [scaleS, if_pos hok0]
  dsimp only
  rw [e2, hN, e1]
  rfl
theorem C_impl_ScaleShared (r c : Int) (xs : List Int) (r' c' : Int) (ys : List Int) (u v : Value) (rc cc : Int) (us : List Int) (rc' cc' : Int) (vs : List Int) (p q : Value) (seed : Int) (z : Scd) (w0 : World)
    (hu : Ints w0 u xs) (hv : Ints w0 v ys) (hp : Ints w0 p us) (hq : Ints w0 q vs) (hz : scaleS ⟨⟨r, c, xs⟩, ⟨r', c', ys⟩⟩ ⟨⟨rc, cc, us⟩, ⟨rc', cc', vs⟩⟩ seed = z) :
    Calls Tryz.prog 106 #[.agg #[.int .i64 r, .int .i64 c, u, .int .i64 r', .int .i64 c', v], .agg #[.int .i64 rc, .int .i64 cc, p, .int .i64 rc', .int .i64 cc', q], .int .i64 seed] w0 (MakesScl w0 z) := by
  by_cases hok : scaleOk ⟨⟨r, c, xs⟩, ⟨r', c', ys⟩⟩ ⟨⟨rc, cc, us⟩, ⟨rc', cc', vs⟩⟩ seed = true
  · obtain ⟨N2, C, N, rfl, rfl, rfl, rfl, r1, r2, c1, c2, hRC, hN, hN', hN2, a1, a2, hM, hM', a3, a4, h3, h1, h2, hs⟩ := scale_good hok
    rw [hs] at hz
    subst hz
    have HU := Lib.hid hu
    have HV := Lib.hid hv
    have HP := Lib.hid hp
    have HQ := Lib.hid hq
    obtain ⟨_, A1, k1, rfl, hk1, hm1, _⟩ := hu
    obtain ⟨_, A2, k2, rfl, hk2, hm2, _⟩ := hv
    obtain ⟨_, A3, k3, rfl, hk3, hm3, _⟩ := hp
    obtain ⟨_, A4, k4, rfl, hk4, hm4, _⟩ := hq
    exact C_impl_Scale_good N2 C N r' c' rc' cc' xs ys us vs A1 A2 A3 A4 k1 k2 k3 k4 seed _ w0 HU HV HP HQ hk1 hm1 hk2 hm2 hk3 hm3 hk4 hm4 r1 r2 c1 c2 hRC hN hN' hN2 a1 a2 hM hM' a3 a4 h3 h1 h2 rfl
  · exact C_impl_Scale_bad r c xs r' c' ys u v rc cc us rc' cc' vs p q seed z w0 hu hv hp hq hok (hz ▸ scaleS_not (by simpa using hok))
theorem St.openScl {w0 w : World} {L : List Ent} {p : Nat} {t : TypeId} {o : Value} (S : St w0 w L) (h : At L p (.row t 1 o 0 [])) : St w0 w [.row t 1 o 0 [], .row t 1 (.slice none 0 0) 0 [], .row t 1 (.slice none 0 0) 0 []] := by
  have T := (S.front h).sub (.cons_cons _ (List.nil_sublist _))
  exact ((T.nilRow t 1).nilRow t 1).front (p := 2) rfl
theorem C_spec_Scale_bad (r c : Int) (xs : List Int) (r' c' : Int) (ys : List Int) (u v : Value) (rc cc : Int) (us : List Int) (rc' cc' : Int) (vs : List Int) (p q : Value) (seed : Int) (w0 : World)
    (hu : Ints w0 u xs) (hv : Ints w0 v ys) (hp : Ints w0 p us) (hq : Ints w0 q vs) (n1 : xs.length ≤ 1048576) (n2 : ys.length ≤ 1048576) (n3 : us.length ≤ 1048576) (n4 : vs.length ≤ 1048576)
    (hok : ¬ scaleOk ⟨⟨r, c, xs⟩, ⟨r', c', ys⟩⟩ ⟨⟨rc, cc, us⟩, ⟨rc', cc', vs⟩⟩ seed = true) :
    Calls Tryz.prog 49 #[.agg #[.int .i64 r, .int .i64 c, u, .int .i64 r', .int .i64 c', v], .agg #[.int .i64 rc, .int .i64 cc, p, .int .i64 rc', .int .i64 cc', q], .int .i64 seed] w0 (MakesScl w0 ⟨SMx.zero, [], 0⟩) := by
  unfold MakesScl
  have HU := Lib.hid hu
  have HV := Lib.hid hv
  have HP := Lib.hid hp
  have HQ := Lib.hid hq
  obtain ⟨_, A1, k1, rfl, hk1, hm1, _⟩ := hu
  obtain ⟨_, A2, k2, rfl, hk2, hm2, _⟩ := hv
  obtain ⟨_, A3, k3, rfl, hk3, hm3, _⟩ := hp
  obtain ⟨_, A4, k4, rfl, hk4, hm4, _⟩ := hq
  have CV : ∀ w : World, Calls Tryz.prog 44 #[.int .i64 seed, .int .i64 1, .int .i64 2147483646] w fun e w' => e = .returned (.bool (seedOk seed)) ∧ w = w' := fun w => C_spec_l1In seed 1 2147483646 w
  have CO := fun r c xs r' c' ys u v w h h' n n' => C_l1OwnSharedMatrix r c xs r' c' ys u v w h h' n n'
  unfold MakesSMx at CO
  have hok' : ¬ ((((likeMx ⟨r, c, xs⟩ ⟨r', c', ys⟩ = true ∧ likeMx ⟨rc, cc, us⟩ ⟨rc', cc', vs⟩ = true) ∧ seedOk seed = true) ∧ cc = 1) ∧ rc = r) := by
    intro h
    apply hok
    simp only [scaleOk, SMx.ok, Bool.and_eq_true, decide_eq_true_eq]
    exact h
  clear hok
  obtain ⟨L, HL, S⟩ := st_start w0; have F : True := trivial
  go_enter Tryz.func49, Tryz.ntmps49
  go_upto_region 4 with (first | (refine qbx HL S ?_; clear F S HL; intro g w L HL S F) | (refine qal HL S zSMx ?_; clear F S HL; intro g w L HL S F) | (refine wpList_empty rfl S _ rfl 3 Tryz.underlying23 infoInt ?_; clear F S; intro g w L hM S; replace HL := qNm HL hM; clear hM; have F := qFc HL S) | (go_at_call 42; refine (CO _ _ _ _ _ _ _ _ _ (by first | exact HU.out.at_ S | exact HP.out.at_ S) (by first | exact HV.out.at_ S | exact HQ.out.at_ S) (by first | exact n1 | exact n3) (by first | exact n2 | exact n4)).mono ?_; rintro e w ⟨u, v, rfl, T0⟩; have hX := qcl HL S T0; clear F S HL T0; obtain ⟨L, HL, S, F⟩ := hX; obtain ⟨A', cap', rfl, hcap', hmax'⟩ := qSl HL S 0; obtain ⟨A', cap', rfl, hcap', hmax'⟩ := qSl HL S 1) | (refine qst HL S 2 ?_; clear F S HL; intro w L HL S F) | (refine qst HL S 3 ?_; clear F S HL; intro w L HL S F) | (refine qst HL S 4 ?_; clear F S HL; intro w L HL S F) | (refine qst HL S 5 ?_; clear F S HL; intro w L HL S F))
  clear CO
  cases h1 : likeMx ⟨r, c, xs⟩ ⟨r', c', ys⟩ with
  | false =>
    clear hok'
    go_upto_region 5 with (first | (go_at_call 43; refine qGr S (C_spec_SharedMatrixValid _ _ _ _ _ _ _ _ _ _ (by exact (Sees.row S qAt).ints) (by exact (Sees.row S qAt).ints) (by exact h1)) ?_; clear S; intro w S))
    go_wp2_with (first | (refine qst HL S 5 ?_; clear F S HL; intro w L HL S F))
    refine ret3 rfl (resCell S HL 5 rfl rfl (by kernel_rfl)) (show _ = _ from rfl) (show _ = _ from rfl) rfl ?_
    exact ⟨_, _, _, rfl, S.openScl (p := 0) (atOf HL rfl)⟩
  | true =>
  cases h2 : likeMx ⟨rc, cc, us⟩ ⟨rc', cc', vs⟩ with
  | false =>
    clear hok'
    go_upto_region 5 with (first | (go_at_call 43; refine qGr S (C_spec_SharedMatrixValid _ _ _ _ _ _ _ _ _ _ (by exact (Sees.row S qAt).ints) (by exact (Sees.row S qAt).ints) (by first | exact h1 | exact h2)) ?_; clear S; intro w S))
    go_wp2_with (first | (refine qst HL S 5 ?_; clear F S HL; intro w L HL S F))
    refine ret3 rfl (resCell S HL 5 rfl rfl (by kernel_rfl)) (show _ = _ from rfl) (show _ = _ from rfl) rfl ?_
    exact ⟨_, _, _, rfl, S.openScl (p := 0) (atOf HL rfl)⟩
  | true =>
  have H1 := Lib.hid h1
  have H2 := Lib.hid h2
  rw [h1, h2] at hok'
  clear h1 h2
  by_cases h4 : cc = 1
  · subst h4
    by_cases h5 : rc = r
    · subst h5
      have h3 : seedOk seed = false := by
        cases h3 : seedOk seed with
        | false => rfl
        | true => exact absurd ⟨⟨⟨⟨rfl, rfl⟩, h3⟩, rfl⟩, rfl⟩ hok'
      rw [h3] at CV
      clear hok' h3
      go_upto_region 5 with (first | (go_at_call 44; refine qPu (CV _) ?_) | (go_at_call 43; refine qGr S (C_spec_SharedMatrixValid _ _ _ _ _ _ _ _ _ _ (by exact (Sees.row S qAt).ints) (by exact (Sees.row S qAt).ints) (by first | exact H1.out | exact H2.out)) ?_; clear S; intro w S))
      go_wp2_with (first | (refine qst HL S 5 ?_; clear F S HL; intro w L HL S F))
      refine ret3 rfl (resCell S HL 5 rfl rfl (by kernel_rfl)) (show _ = _ from rfl) (show _ = _ from rfl) rfl ?_
      exact ⟨_, _, _, rfl, S.openScl (p := 0) (atOf HL rfl)⟩
    · clear hok'
      have hne : (rc == r) = false := by rw [beq_eq_false_iff_ne]; exact h5
      go_upto_region 5 with (first | (go_at_call 43; refine qGr S (C_spec_SharedMatrixValid _ _ _ _ _ _ _ _ _ _ (by exact (Sees.row S qAt).ints) (by exact (Sees.row S qAt).ints) (by first | exact H1.out | exact H2.out)) ?_; clear S; intro w S))
      go_wp2_with (first | (refine qst HL S 5 ?_; clear F S HL; intro w L HL S F))
      refine ret3 rfl (resCell S HL 5 rfl rfl (by kernel_rfl)) (show _ = _ from rfl) (show _ = _ from rfl) rfl ?_
      exact ⟨_, _, _, rfl, S.openScl (p := 0) (atOf HL rfl)⟩
  · clear hok'
    have hne : (cc == 1) = false := by rw [beq_eq_false_iff_ne]; exact h4
    go_upto_region 5 with (first | (go_at_call 43; refine qGr S (C_spec_SharedMatrixValid _ _ _ _ _ _ _ _ _ _ (by exact (Sees.row S qAt).ints) (by exact (Sees.row S qAt).ints) (by first | exact H1.out | exact H2.out)) ?_; clear S; intro w S))
    go_wp2_with (first | (refine qst HL S 5 ?_; clear F S HL; intro w L HL S F))
    refine ret3 rfl (resCell S HL 5 rfl rfl (by kernel_rfl)) (show _ = _ from rfl) (show _ = _ from rfl) rfl ?_
    exact ⟨_, _, _, rfl, S.openScl (p := 0) (atOf HL rfl)⟩
end
section
theorem turn_all {R C : Nat} {xs : List Int} (h1 : 1 ≤ R) (h : xs.all rv = true) (hl : xs.length = R * C) : (tab (C * R) (turnV R C xs)).all rv = true := by
  rw [List.all_eq_true]
  intro x hx
  simp only [tab, List.mem_map, List.mem_range] at hx
  obtain ⟨q, hq, rfl⟩ := hx
  unfold turnV
  have hr : q % R < R := Nat.mod_lt _ (by omega)
  have hc : q / R < C := Nat.div_lt_of_lt_mul (by rw [Nat.mul_comm]; exact hq)
  have := cell_lt hr hc
  rw [List.getD_eq_getElem?_getD, List.getElem?_eq_getElem (by rw [hl]; exact this)]
  exact List.all_eq_true.1 h _ (List.getElem_mem _)
end
section
theorem turn_ok {R C : Nat} {xs : List Int} (r1 : 1 ≤ R) (r2 : R ≤ 5) (c1 : 1 ≤ C) (c2 : C ≤ 5) (hl : xs.length = R * C) (h : xs.all rv = true) : (Mx.mk C R (tab (C * R) (turnV R C xs))).ok = true :=
  Mx.ok_of c1 c2 r1 r2 (tab_length _ _) (turn_all r1 h hl)
theorem turn_like {R C : Nat} {xs ys : List Int} (r1 : 1 ≤ R) (r2 : R ≤ 5) (c1 : 1 ≤ C) (c2 : C ≤ 5) (hl : xs.length = R * C) (h : xs.all rv = true) (hl' : ys.length = R * C) (h' : ys.all rv = true) :
    likeMx ⟨C, R, tab (C * R) (turnV R C xs)⟩ ⟨C, R, tab (C * R) (turnV R C ys)⟩ = true := by
  simp [likeMx, turn_ok r1 r2 c1 c2 hl h, turn_ok r1 r2 c1 c2 hl' h']
theorem smx_parts {m : SMx} (h : m.ok = true) : ∃ (R C : Nat) (xs ys : List Int), m = ⟨⟨R, C, xs⟩, ⟨R, C, ys⟩⟩ ∧ 1 ≤ R ∧ R ≤ 5 ∧ 1 ≤ C ∧ C ≤ 5 ∧ xs.length = R * C ∧ ys.length = R * C ∧ xs.all rv = true ∧ ys.all rv = true := by
  obtain ⟨⟨r, c, xs⟩, ⟨r', c', ys⟩⟩ := m
  obtain ⟨R, C, N, rfl, rfl, rfl, rfl, r1, r2, c1, c2, hRC, hN, hN', _, a1, a2⟩ := like_parts h
  exact ⟨R, C, xs, ys, rfl, r1, r2, c1, c2, by rw [hN, hRC], by rw [hN', hRC], a1, a2⟩
theorem turnSMx_val {R C : Nat} {xs ys : List Int} (h : (SMx.mk ⟨R, C, xs⟩ ⟨R, C, ys⟩).ok = true) (hx : (Mx.mk R C xs).ok = true) (hy : (Mx.mk R C ys).ok = true) :
    turnSMx ⟨⟨R, C, xs⟩, ⟨R, C, ys⟩⟩ = ⟨⟨C, R, tab (C * R) (turnV R C xs)⟩, ⟨C, R, tab (C * R) (turnV R C ys)⟩⟩ := by
  rw [turnSMx, if_pos h]
  dsimp only
  rw [turnMx_ok hx, turnMx_ok hy]
theorem turn_join {m : SMx} (h : m.ok = true) : addMx (turnSMx m).a (turnSMx m).b = turnMx (addMx m.a m.b) := by
  obtain ⟨R, C, xs, ys, rfl, r1, r2, c1, c2, hl, hl', a1, a2⟩ := smx_parts h
  have o1 := Mx.ok_of r1 r2 c1 c2 hl a1
  have o2 := Mx.ok_of r1 r2 c1 c2 hl' a2
  rw [turnSMx_val h o1 o2]
  dsimp only
  rw [addMx_ok (turn_like r1 r2 c1 c2 hl a1 hl' a2), addMx_ok h]
  dsimp only
  have oj : (Mx.mk R C (tab xs.length (addV xs ys))).ok = true := by
    refine Mx.ok_of r1 r2 c1 c2 (by rw [tab_length, hl]) ?_
    rw [List.all_eq_true]
    intro x hx
    simp only [tab, List.mem_map, List.mem_range] at hx
    obtain ⟨q, hq, rfl⟩ := hx
    have g1 : rv (xs.getD q 0) = true := by
      rw [List.getD_eq_getElem?_getD, List.getElem?_eq_getElem hq]; exact List.all_eq_true.1 a1 _ (List.getElem_mem _)
    have g2 : rv (ys.getD q 0) = true := by
      rw [List.getD_eq_getElem?_getD, List.getElem?_eq_getElem (by omega)]; exact List.all_eq_true.1 a2 _ (List.getElem_mem _)
    show rv (addR (xs.getD q 0) (ys.getD q 0)) = true
    generalize xs.getD q 0 = x at g1
    generalize ys.getD q 0 = y at g2
    simp [addR, g1, g2, rv_ro]
  rw [turnMx_ok oj, tab_length]
  congr 1
  refine tab_congr _ _ _ fun q hq => ?_
  have hr : q % R < R := Nat.mod_lt _ (by omega)
  have hc : q / R < C := Nat.div_lt_of_lt_mul (by rw [Nat.mul_comm]; exact hq)
  have h5 := cell_lt hr hc
  show addR ((tab (C * R) (turnV R C xs)).getD q 0) ((tab (C * R) (turnV R C ys)).getD q 0) = turnV R C (tab xs.length (addV xs ys)) q
  rw [tab_getD _ _ _ hq, tab_getD _ _ _ hq]
  show _ = (tab xs.length (addV xs ys)).getD (q % R * C + q / R) 0
  rw [tab_getD _ _ _ (by rw [hl]; exact h5)]
  rfl
end
section
theorem C_addR' (a b q : Int) (w0 : World) (h : addR a b = q) : Calls Tryz.prog 105 #[.int .i64 a, .int .i64 b] w0 fun e w' => e = .returned (.int .i64 q) ∧ w0 = w' := h ▸ C_impl_AddRing a b w0
def rsTo (xs : List Int) (R C j k : Nat) : List Int := tab R fun q => if q < j then ro (rowTo xs C q C) else if q = j then ro (rowTo xs C j k) else 0
theorem rsTo_zero (xs : List Int) (R C : Nat) : rsTo xs R C 0 0 = tab R fun _ => 0 := tab_congr _ _ _ fun q _ => by
  by_cases h : q = 0
  · simp [h, rowTo, ro]
  · simp [h]
theorem rsTo_row (xs : List Int) (R C j : Nat) : rsTo xs R C j C = rsTo xs R C (j + 1) 0 := tab_congr _ _ _ fun q _ => by
  by_cases h : q < j
  · rw [if_pos h, if_pos (by omega)]
  · rw [if_neg h]
    by_cases h2 : q = j
    · rw [if_pos h2, if_pos (by omega), h2]
    · rw [if_neg h2, if_neg (by omega)]
      split
      · rfl
      · rfl
theorem rsTo_get (xs : List Int) {R C j k : Nat} (hj : j < R) : (rsTo xs R C j k).getD j 0 = ro (rowTo xs C j k) := by
  unfold rsTo
  rw [tab_getD _ _ _ hj, if_neg (by omega), if_pos rfl]
theorem rsTo_set (xs : List Int) (R C j k : Nat) : (rsTo xs R C j k).set j (ro (rowTo xs C j (k + 1))) = rsTo xs R C j (k + 1) := by
  unfold rsTo
  rw [tab_set]
  refine tab_congr _ _ _ fun q _ => ?_
  by_cases h : q = j
  · rw [if_pos h, if_neg (by omega), if_pos h]
  · rw [if_neg h, if_neg h, if_neg h]
theorem rsTo_full (xs : List Int) (R C : Nat) : rsTo xs R C R 0 = tab R (sumV xs C) := tab_congr _ _ _ fun q h => if_pos h
theorem rsTo_length (xs : List Int) (R C j k : Nat) : (rsTo xs R C j k).length = R := tab_length _ _
theorem add_row {t x : Int} (hx : rv x = true) : addR (ro t) x = ro (t + x) := by
  unfold addR
  rw [rv_ro, hx]
  show ro (ro t + x) = ro (t + x)
  unfold ro
  omega
theorem C_impl_RowSums (R C : Nat) (xs : List Int) (u : Value) (w0 : World) (h : Ints w0 u xs) (r1 : 1 ≤ R) (r2 : R ≤ 5) (c1 : 1 ≤ C) (c2 : C ≤ 5) (hl : xs.length = R * C) (a1 : xs.all rv = true) :
    Calls Tryz.prog 57 #[.agg #[.int .i64 R, .int .i64 C, u]] w0 (MakesMx w0 R 1 (tab R (sumV xs C))) := by
  obtain ⟨N, hN⟩ : ∃ N, R * C = N := ⟨_, rfl⟩
  have b0 : N ≤ 25 := by
    have : R * C ≤ 5 * 5 := Nat.mul_le_mul r2 c2
    omega
  have p0 : 0 < N := by rw [← hN]; exact Nat.mul_pos r1 c1
  unfold MakesMx
  rw [tab_length]
  have HU := Lib.hid h
  have H1 := Lib.hid (Mx.ok_of r1 r2 c1 c2 hl a1)
  have CE : ∀ w, Calls Tryz.prog 103 #[.int .i64 R, .int .i64 1] w (MakesMx w R 1 (tab R fun _ => 0)) := fun w => C_emptyMatrix R 1 R w (Nat.mul_one R) (by omega)
  obtain ⟨_, A1, k1, rfl, hk1, hm1, hA1⟩ := h
  rw [hN] at hl
  rw [hl] at hk1 hA1
  obtain ⟨ba, oa, rfl, hba, hca⟩ := hA1 p0
  have HA := Lib.hid hca
  have HL1 := Lib.hid hl
  have HX := Lib.hid a1
  have HN := Lib.hid hN
  unfold MakesMx at CE
  rw [tab_length] at CE
  rw [HL1.out] at HU ⊢
  clear hA1 hca hl hN a1
  obtain ⟨L, HL, S⟩ := st_start w0; have F : True := trivial
  go_enter Tryz.func57, Tryz.ntmps57
  go_upto_region 1 with (first | (refine qbd 1 HL S ?_; clear F S HL; intro ga w L HL S F) | (refine qal HL S zMx ?_; clear F S HL; intro gr w L HL S F))
  go_upto_region 3 with (first | (go_at_call 70; refine qGr S (C_impl_MatrixValid _ _ _ _ _ _ (by exact HU.out.at_ S) (by exact H1.out)) ?_; clear S; intro w S))
  go_upto_region 4 with (first | (refine qal HL S zMx ?_; clear F S HL; intro g5 w L HL S F) | (refine qst HL S 0 ?_; clear F S HL; intro w L HL S F) | (go_at_call 103; refine (CE _).mono ?_; rintro e w ⟨u, rfl, T0⟩; have hX := qcl HL S T0; clear F S HL T0; obtain ⟨L, HL, S, F⟩ := hX; obtain ⟨A', cap', rfl, hcap', hmax'⟩ := qSl HL S 0))
  obtain ⟨gn, cn, ev, hcv, hmv⟩ := S.rowAt (p := 1) (atOf HL rfl) r1
  obtain ⟨rfl, rfl⟩ : A' = some ⟨gn, 0, none⟩ ∧ cap' = cn := by injection ev with e1 _ e3; exact ⟨e1, e3⟩
  clear ev CE
  go_wp2
  go_loopw [16] (fun i wr => ∃ (j : Nat) (L : List Ent), j ≤ R ∧ i = .int .i64 j ∧ Hid (L = [.box g5 30 [.int .i64 R, .int .i64 1, .slice (some ⟨gn, 0, none⟩) R cap'], .row 3 1 (.slice (some ⟨gn, 0, none⟩) R cap') R (ints (rsTo xs R C j 0)), .box gr 30 [.int .i64 0, .int .i64 0, .slice none 0 0], .box ga 30 [.int .i64 R, .int .i64 C, .slice (some ⟨ba, oa, none⟩) N k1]]) ∧ St w0 wr L) (fun i _ => R - (intOf i).toNat)
  case atStart => exact ⟨0, L, Nat.zero_le _, rfl, Lib.hid (by rw [HL.out, rsTo_zero]), S⟩
  case round =>
    clear F HL S
    obtain ⟨j, L, hj, rfl, HL, S⟩ := hrel
    have F := factsAll HL S
    simp only [factsOf, cellsFrom, and_true, true_and, Nat.reduceAdd] at F
    by_cases hlt : j < R
    · obtain ⟨m1, hm1'⟩ : ∃ m1, j * C = m1 := ⟨_, rfl⟩
      have HM1 := Lib.hid hm1'
      have CR := fun w => C_rowOf R C j N k1 ba oa m1 w hlt r2 c1 c2 hm1' HN.out hk1 hm1
      clear hm1'
      go_wp2_with (first | (go_at_call 104; refine qGr S (CR _) ?_; clear S; intro w S))
      clear CR
      go_loopw [23] (fun i wr => ∃ (k : Nat) (L : List Ent), k ≤ C ∧ i = .int .i64 k ∧ Hid (L = [.box g5 30 [.int .i64 R, .int .i64 1, .slice (some ⟨gn, 0, none⟩) R cap'], .row 3 1 (.slice (some ⟨gn, 0, none⟩) R cap') R (ints (rsTo xs R C j k)), .box gr 30 [.int .i64 0, .int .i64 0, .slice none 0 0], .box ga 30 [.int .i64 R, .int .i64 C, .slice (some ⟨ba, oa, none⟩) N k1]]) ∧ St w0 wr L) (fun i _ => C - (intOf i).toNat)
      case atStart => exact ⟨0, L, Nat.zero_le _, rfl, HL, S⟩
      case round =>
        clear F HL S
        obtain ⟨k, L, hk, rfl, HL, S⟩ := hrel
        have F := factsAll HL S
        simp only [factsOf, cellsFrom, and_true, true_and, Nat.reduceAdd] at F
        by_cases hlt2 : k < C
        · have q1 : m1 + k < N := by rw [← HM1.out, ← HN.out]; exact cell_lt hlt hlt2
          have x0 := HA.out (m1 + k) _ (ints_getD xs (m1 + k) (by rw [HL1.out]; exact q1))
          rw [← Nat.add_assoc] at x0
          have c0 := (S.below.cell (p := ⟨ba, oa + m1 + k, none⟩) hba).trans x0
          have hx := getD_rv HX.out (m1 + k)
          have es := rsTo_set xs R C j k
          have eg := rsTo_get xs (C := C) (k := k) hlt
          have e1 : rowTo xs C j (k + 1) = rowTo xs C j k + xs.getD (m1 + k) 0 := by rw [← HM1.out]; rfl
          have hl0 := rsTo_length xs R C j k
          rw [e1] at es
          have ez := add_row (t := rowTo xs C j k) hx
          have y0 := ints_getD (rsTo xs R C j k) j (by rw [hl0]; exact hlt)
          rw [eg] at y0
          generalize xs.getD (m1 + k) 0 = x at *
          generalize ro (rowTo xs C j k) = y at *
          generalize ro (rowTo xs C j k + x) = z at *
          have ES := Lib.hid es
          have EZ := Lib.hid ez
          have Y0 := Lib.hid y0
          clear es eg e1 hl0 ez y0 x0 hx
          go_upto_region 10 with fail
          have d0 := fun w' (S' : St w0 w' L) => (S'.rowCell (p := 1) (atOf HL rfl) j (by omega)).trans Y0.out
          have HL0 := HL; have F0 := F; refine wp_region_tree (S := fun w' => St w0 w' L) (qcs 0 9 (.act 9 (.calm 10 (.act 11 .fin .stop)) .stop)) (by kernel_rfl) (by kernel_rfl) (by kernel_rfl) (by intro c a d v w h; cases d <;> exact h) ?_; dsimp only [qcs, Nat.reduceAdd]; replace S := S.drew
          repeat (first | refine qCa ?_ | refine qAn ?_ | refine qSk ?_ | (refine tree_act rfl rfl ?_ tree_stop; intro K hK; (refine wp_store_row S _ _ _ rfl 1 _ _ _ _ _ _ _ (atOf HL rfl) rfl _ rfl (by kernel_rfl) rfl (by omega) ?_; clear F S; intro w L hM S; replace HL := qNm HL hM; clear hM; have F := qFc HL S); (refine qKo hK ?_; clear hK K)) | (refine tree_act rfl rfl ?_ tree_stop; intro K hK; go_wp2_with (first | (go_at_call 105; refine qPu (C_addR' _ _ _ _ EZ.out) ?_)); (refine qKo hK ?_; clear hK K)))
          refine tree_fin ?_
          clear HL0 F0 d0
          go_wp2
          go_roundw
          case rel =>
            rw [← ints_set, ES.out] at HL
            exact ⟨k + 1, L, by omega, by go_num, HL, S⟩
          case measure => simp [intOf]; omega
        · obtain rfl : k = C := by omega
          go_wp2
          go_roundw
          case rel => exact ⟨j + 1, L, by omega, by go_num, by rw [← rsTo_row]; exact HL, S⟩
          case measure => simp [intOf]; omega
    · obtain rfl : j = R := by omega
      go_wp2_with (first | (refine qst HL S 2 ?_; clear F S HL; intro w L HL S F))
      ((try simp only [Exit.inBlock, Exit.then]); refine ret1 rfl (resCell S HL 2 rfl rfl (by kernel_rfl)) rfl ?_)
      refine ⟨_, rfl, ?_⟩
      rw [rsTo_full] at HL
      exact (by rw [HL.out] at S; exact S.sub (by repeat (first | exact .refl _ | exact List.nil_sublist _ | apply List.Sublist.cons_cons | apply List.Sublist.cons)))
end
section
structure Good (z : Scd) (p : Mx) (o : Int) : Prop where
  ok : z.m.ok = true
  join : joinMx z.m = p
  seed : seedOk z.last = true
  len : (z.os.length : Int) = o
theorem Good.sides {z : Scd} {p : Mx} {o : Int} (h : Good z p o) : z.m.a.r = p.r ∧ z.m.a.c = p.c := by
  obtain ⟨_, h1, h2, _⟩ := join_smx h.ok
  rw [h.join] at h1 h2
  exact ⟨h1.symm, h2.symm⟩
theorem smx_len {m : SMx} (h : m.ok = true) : (m.a.xs.length : Int) = m.a.r * m.a.c := by
  obtain ⟨R, C, N, xs, ys, rfl, _, _, _, _, hRC, hN, _⟩ := smx_nat h
  show (xs.length : Int) = (R : Int) * (C : Int)
  rw [hN, ← hRC, Int.natCast_mul]
theorem map_good {k : Int} {m : SMx} {s : Int} (hk : 1 ≤ k ∧ k ≤ 5) (hm : m.ok = true) (hs : seedOk s = true) : Good (mapS k m s) (mapMx k (joinMx m)) (m.a.r * m.a.c) := by
  have h : mapOk k m s = true := by simp [mapOk, hm, hs, hk.1, hk.2]
  obtain ⟨h1, h2, h3, h4⟩ := mapS_join h
  exact ⟨h1, h2, h3, by rw [h4]; exact smx_len hm⟩
theorem prod_good {x y : SMx} {s : Int} (hx : x.ok = true) (hy : y.ok = true) (hc : x.a.c = y.a.r) (hs : seedOk s = true) : Good (prodS x y s) (mulMx (joinMx x) (joinMx y)) (x.a.r * x.a.c + y.a.r * y.a.c) := by
  have h : prodOk x y s = true := by simp [prodOk, hx, hy, hs, hc]
  obtain ⟨h1, h2, h3, _, _, h4⟩ := prodS_join h
  exact ⟨h1, h2, h3, by rw [h4, Int.natCast_add, smx_len hx, smx_len hy]⟩
def cutS (x y : SMx) (s : Int) : Scd := ⟨(mapS 1 (prodS x y s).m (prodS x y s).last).m, (prodS x y s).os ++ (mapS 1 (prodS x y s).m (prodS x y s).last).os, (mapS 1 (prodS x y s).m (prodS x y s).last).last⟩
theorem cut_good {x y : SMx} {s : Int} (hx : x.ok = true) (hy : y.ok = true) (hc : x.a.c = y.a.r) (hs : seedOk s = true) : Good (cutS x y s) (cutMul (joinMx x) (joinMx y)) (x.a.r * x.a.c + y.a.r * y.a.c + x.a.r * y.a.c) := by
  have g := prod_good hx hy hc hs
  have g2 := map_good (k := 1) ⟨by omega, by omega⟩ g.ok g.seed
  obtain ⟨s1, s2⟩ := g.sides
  have e1 : (mulMx (joinMx x) (joinMx y)).r = x.a.r := (join_smx hx).2.1
  have e2 : (mulMx (joinMx x) (joinMx y)).c = y.a.c := (join_smx hy).2.2.1
  refine ⟨g2.ok, ?_, g2.seed, ?_⟩
  · show joinMx (mapS 1 _ _).m = _
    rw [g2.join, g.join]
    rfl
  · show (((prodS x y s).os ++ (mapS 1 (prodS x y s).m (prodS x y s).last).os).length : Int) = _
    rw [List.length_append, Int.natCast_add, g.len, g2.len, s1, s2, e1, e2]
theorem turn_good {m : SMx} (h : m.ok = true) : (turnSMx m).ok = true ∧ joinMx (turnSMx m) = turnMx (joinMx m) ∧ (turnSMx m).a.r = m.a.c ∧ (turnSMx m).a.c = m.a.r := by
  have hj : joinMx (turnSMx m) = turnMx (joinMx m) := turn_join h
  obtain ⟨R, C, xs, ys, rfl, r1, r2, c1, c2, hl, hl', a1, a2⟩ := smx_parts h
  have o1 := Mx.ok_of r1 r2 c1 c2 hl a1
  have o2 := Mx.ok_of r1 r2 c1 c2 hl' a2
  refine ⟨?_, hj, ?_, ?_⟩
  · rw [turnSMx_val h o1 o2]
    exact turn_like r1 r2 c1 c2 hl a1 hl' a2
  · rw [turnSMx_val h o1 o2]
  · rw [turnSMx_val h o1 o2]
def sumsS (m : SMx) : SMx := ⟨sumsMx m.a, sumsMx m.b⟩
theorem rowTo_join {xs ys : List Int} {n : Nat} (hx : xs.length = n) (hy : ys.length = n) (a1 : xs.all rv = true) (a2 : ys.all rv = true) (C r : Nat) :
    ∀ k, ∃ z : Int, rowTo (tab n (sumsV xs ys)) C r k = rowTo xs C r k + rowTo ys C r k + 4096 * z
  | 0 => ⟨0, rfl⟩
  | k + 1 => by
    obtain ⟨z, h⟩ := rowTo_join hx hy a1 a2 C r k
    obtain ⟨z', h'⟩ := sums_rel hx hy a1 a2 (r * C + k)
    refine ⟨z + z', ?_⟩
    simp only [rowTo]
    rw [h, h']
    omega
theorem sums_good {m : SMx} (h : m.ok = true) : (sumsS m).ok = true ∧ joinMx (sumsS m) = sumsMx (joinMx m) ∧ (sumsS m).a.r = m.a.r ∧ (sumsS m).a.c = 1 := by
  obtain ⟨R, C, N, xs, ys, rfl, r1, r2, c1, c2, hRC, hN, hN', hN2, a1, a2⟩ := smx_nat h
  have o1 : (sumsMx ⟨R, C, xs⟩).ok = true := sumsMx_ok (Mx.ok_of r1 r2 c1 c2 (by rw [hN, hRC]) a1)
  have o2 : (sumsMx ⟨R, C, ys⟩).ok = true := sumsMx_ok (Mx.ok_of r1 r2 c1 c2 (by rw [hN', hRC]) a2)
  have hok : (sumsS ⟨⟨R, C, xs⟩, ⟨R, C, ys⟩⟩).ok = true := by
    simp only [SMx.ok, sumsS, likeMx, o1, o2, Bool.and_self, Bool.true_and]
    simp [sumsMx]
  refine ⟨hok, ?_, rfl, rfl⟩
  unfold joinMx
  rw [sumMx_ok hok, sumMx_ok h]
  show Mx.mk (R : Int) 1 (tab (tab ((R : Int).toNat) _).length _) = Mx.mk (R : Int) 1 (tab ((R : Int).toNat) _)
  rw [tab_length]
  refine congrArg (Mx.mk (R : Int) 1) (tab_congr _ _ _ fun i hi => ?_)
  show addR ((tab _ (sumV xs C)).getD i 0) ((tab _ (sumV ys C)).getD i 0) = sumV (tab xs.length (sumsV xs ys)) C i
  rw [tab_getD _ _ _ hi, tab_getD _ _ _ hi]
  obtain ⟨z, hz⟩ := rowTo_join (n := xs.length) rfl (by omega) a1 a2 C i C
  unfold sumV
  rw [addR_ok (rv_ro _) (rv_ro _), hz]
  obtain ⟨k1, e1⟩ := ro_ex (rowTo xs C i C)
  obtain ⟨k2, e2⟩ := ro_ex (rowTo ys C i C)
  rw [e1, e2, show rowTo xs C i C + 4096 * k1 + (rowTo ys C i C + 4096 * k2) = (rowTo xs C i C + rowTo ys C i C) + 4096 * (k1 + k2) by omega, ro_add, ro_add]
theorem scaleS_good {g b : SMx} {s : Int} (hg : g.ok = true) (hb : b.ok = true) (hs : seedOk s = true) (hc : b.a.c = 1) (hr : b.a.r = g.a.r) :
    Good (scaleS g b s) (scaleMx (joinMx g) (joinMx b)) (2 * (g.a.r * g.a.c)) := by
  have h : scaleOk g b s = true := by simp [scaleOk, hg, hb, hs, hc, hr]
  have hl := scale_law h
  obtain ⟨⟨C, hC, c1, c2, l1, l2, hat⟩, hlen⟩ := hl
  have hj := join_smx hg
  have e : scaleS g b s = ⟨⟨⟨g.a.r, g.a.c, (Scl.mk g.a.xs g.b.xs b.a.xs b.b.xs g.a.c.toNat s).fir g.a.xs.length⟩, ⟨g.a.r, g.a.c, (Scl.mk g.a.xs g.b.xs b.a.xs b.b.xs g.a.c.toNat s).sec g.a.xs.length⟩⟩,
      (Scl.mk g.a.xs g.b.xs b.a.xs b.b.xs g.a.c.toNat s).opened g.a.xs.length, seedAt s (5 * g.a.xs.length)⟩ := by
    unfold scaleS
    rw [if_pos h]
  have hok : (scaleS g b s).m.ok = true := by
    rw [e]
    obtain ⟨R, C', N, xs, ys, rfl, r1, r2, c1', c2', hRC, hN, hN', hN2, a1, a2⟩ := smx_nat hg
    have o1 : (Mx.mk R C' ((Scl.mk xs ys b.a.xs b.b.xs C' s).fir xs.length)).ok = true := Mx.ok_of r1 r2 c1' c2' (by rw [Scl.fir, tab_length, hN, hRC]) (tab_all fun q _ => (mulV_rv _ _ _).1)
    have o2 : (Mx.mk R C' ((Scl.mk xs ys b.a.xs b.b.xs C' s).sec xs.length)).ok = true := Mx.ok_of r1 r2 c1' c2' (by rw [Scl.sec, tab_length, hN, hRC]) (tab_all fun q _ => (mulV_rv _ _ _).2)
    show likeMx ⟨R, C', (Scl.mk xs ys b.a.xs b.b.xs C' s).fir xs.length⟩ ⟨R, C', (Scl.mk xs ys b.a.xs b.b.xs C' s).sec xs.length⟩ = true
    simp [likeMx, o1, o2]
  have hjs := join_smx hok
  refine ⟨hok, ?_, by rw [e]; exact seedOk_at hs _, ?_⟩
  · have f1 : (joinMx (scaleS g b s).m).r = (joinMx g).r := by rw [hjs.2.1, hj.2.1, e]
    have f2 : (joinMx (scaleS g b s).m).c = (joinMx g).c := by rw [hjs.2.2.1, hj.2.2.1, e]
    have hC' : (joinMx g).c = C := hC
    have f3 : (joinMx (scaleS g b s).m).xs = tab (joinMx g).xs.length (scaleV (joinMx g).xs (joinMx b).xs (joinMx g).c.toNat) := by
      rw [hC', Int.toNat_natCast]
      have l2' : (joinMx (scaleS g b s).m).xs.length = (joinMx g).xs.length := l2
      rw [← tab_self (joinMx (scaleS g b s).m).xs, l2']
      exact tab_congr _ _ _ fun i hi => (hat i hi).2
    have e0 : joinMx (scaleS g b s).m = ⟨(joinMx (scaleS g b s).m).r, (joinMx (scaleS g b s).m).c, (joinMx (scaleS g b s).m).xs⟩ := rfl
    rw [e0, f1, f2, f3]
    rfl
  · rw [hlen]
    have : (addMx g.a g.b).xs.length = g.a.xs.length := hj.2.2.2
    rw [this, Int.natCast_mul, smx_len hg]
    rfl
end
end Go.Proofs.YtjgfjfjboimgdaaGreat
