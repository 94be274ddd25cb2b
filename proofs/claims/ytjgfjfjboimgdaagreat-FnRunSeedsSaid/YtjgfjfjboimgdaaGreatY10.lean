/- MatI PlC TbP MatP MatQ -/
import Derived.Test.YtjgfjfjboimgdaaGreatY09
namespace Go.Proofs.YtjgfjfjboimgdaaGreat
set_option linter.unusedSimpArgs false
set_option linter.unusedVariables false
set_option linter.unusedSectionVars false
open Go Go.RowKit
set_option maxHeartbeats 8000000
set_option maxRecDepth 20000
section
theorem like_partsL {r c : Int} {xs : List Int} {r' c' : Int} {ys : List Int} (h : likeMx ⟨r, c, xs⟩ ⟨r', c', ys⟩ = true) :
    ∃ R C N : Nat, r = R ∧ c = C ∧ r' = R ∧ c' = C ∧ 1 ≤ R ∧ R ≤ 5 ∧ 1 ≤ C ∧ C ≤ 5 ∧ R * C = N ∧ xs.length = N ∧ ys.length = N ∧ N ≤ 25 ∧ xs.all rv = true ∧ ys.all rv = true := by
  simp only [likeMx, Bool.and_eq_true, decide_eq_true_eq] at h
  obtain ⟨⟨⟨h1, h2⟩, h3⟩, h4⟩ := h
  obtain ⟨R, C, N, e0, r1, r2, c1, c2, hRC, hN, hN2, hall⟩ := Mx.ok_nat h1
  obtain ⟨e1, e2⟩ : r = R ∧ c = C := by injection e0 with e1 e2 _; exact ⟨e1, e2⟩
  obtain ⟨R', C', N', e0', _, _, _, _, hRC', hN', _, hall'⟩ := Mx.ok_nat h2
  obtain ⟨e1', e2'⟩ : r' = R' ∧ c' = C' := by injection e0' with e1 e2 _; exact ⟨e1, e2⟩
  have hr : R' = R := by
    have : (R' : Int) = R := by rw [← e1', ← h3, e1]
    exact Int.ofNat.inj this
  have hc : C' = C := by
    have : (C' : Int) = C := by rw [← e2', ← h4, e2]
    exact Int.ofNat.inj this
  subst hr hc
  exact ⟨R', C', N, e1, e2, e1', e2', r1, r2, c1, c2, hRC, hN, by rw [← hRC, hRC']; exact hN', hN2, hall, hall'⟩
def sumsV (xs ys : List Int) (k : Nat) : Int := addR (xs.getD k 0) (ys.getD k 0)
def sumMx (a b : Mx) : Mx := if likeMx a b then ⟨a.r, a.c, tab a.xs.length (sumsV a.xs b.xs)⟩ else Mx.zero
theorem sumMx_not {a b : Mx} (h : likeMx a b = false) : sumMx a b = Mx.zero := by simp [sumMx, h]
theorem sumMx_ok {a b : Mx} (h : likeMx a b = true) : sumMx a b = ⟨a.r, a.c, tab a.xs.length (sumsV a.xs b.xs)⟩ := by simp [sumMx, h]
theorem C_AddRingL (a b q : Int) (w0 : World) (h : addR a b = q) : Calls Tryz.prog 105 #[.int .i64 a, .int .i64 b] w0 fun e w' => e = .returned (.int .i64 q) ∧ w0 = w' := h ▸ C_impl_AddRing a b w0
theorem C_pairAddL (r c : Int) (xs : List Int) (r' c' : Int) (ys : List Int) (u v : Value) (t : Mx) (w0 : World) (h : Ints w0 u xs) (h' : Ints w0 v ys) (ht : sumMx ⟨r, c, xs⟩ ⟨r', c', ys⟩ = t) :
    Calls Tryz.prog 109 #[.agg #[.int .i64 r, .int .i64 c, u], .agg #[.int .i64 r', .int .i64 c', v], .func (.func 105) #[] #[]] w0 (MakesMx w0 t.r t.c t.xs) := by
  unfold MakesMx
  have HU := Lib.hid h
  have HV := Lib.hid h'
  obtain ⟨_, A1, k1, rfl, hk1, hm1, hA1⟩ := h
  obtain ⟨_, A2, k2, rfl, hk2, hm2, hA2⟩ := h'
  cases hl : likeMx ⟨r, c, xs⟩ ⟨r', c', ys⟩ with
  | false =>
    obtain rfl : t = Mx.zero := ht ▸ sumMx_not hl
    clear ht hA1 hA2
    have hb' : ((Mx.mk r c xs).ok && (Mx.mk r' c' ys).ok && (decide (r = r') && decide (c = c'))) = false := by rw [← Bool.and_assoc]; exact hl
    clear hl
    cases h1 : (Mx.mk r c xs).ok with
    | false =>
      clear hb'
      obtain ⟨L, HL, S⟩ := st_start w0; have F : True := trivial
      go_enter Tryz.func109, Tryz.ntmps109
      go_upto_region 1 with (first | (refine qbx HL S ?_; clear F S HL; intro g w L HL S F) | (refine qal HL S zMx ?_; clear F S HL; intro g w L HL S F))
      go_upto_region 2 with (first | (go_at_call 70; refine qGr S (C_impl_MatrixValid _ _ _ _ _ _ (by exact HU.out.at_ S) (by exact h1)) ?_; clear S; intro w S))
      go_wp2_with (first | (refine qst HL S 0 ?_; clear F S HL; intro w L HL S F))
      ((try simp only [Exit.inBlock, Exit.then]); refine ret1 rfl (resCell S HL 0 rfl rfl (by kernel_rfl)) rfl ?_)
      exact ⟨_, rfl, S.nilMx _⟩
    | true =>
    cases h2 : (Mx.mk r' c' ys).ok with
    | false =>
      clear hb'
      obtain ⟨L, HL, S⟩ := st_start w0; have F : True := trivial
      go_enter Tryz.func109, Tryz.ntmps109
      go_upto_region 1 with (first | (refine qbx HL S ?_; clear F S HL; intro g w L HL S F) | (refine qal HL S zMx ?_; clear F S HL; intro g w L HL S F))
      go_upto_region 2 with (first | (go_at_call 70; refine qGr S (C_impl_MatrixValid _ _ _ _ _ _ (by first | exact HU.out.at_ S | exact HV.out.at_ S) (by first | exact h1 | exact h2)) ?_; clear S; intro w S))
      go_wp2_with (first | (refine qst HL S 0 ?_; clear F S HL; intro w L HL S F))
      ((try simp only [Exit.inBlock, Exit.then]); refine ret1 rfl (resCell S HL 0 rfl rfl (by kernel_rfl)) rfl ?_)
      exact ⟨_, rfl, S.nilMx _⟩
    | true =>
      rw [h1, h2, Bool.true_and, Bool.true_and] at hb'
      have H1 := Lib.hid h1
      have H2 := Lib.hid h2
      have H3 := Lib.hid hb'
      clear h1 h2 hb'
      obtain ⟨L, HL, S⟩ := st_start w0; have F : True := trivial
      go_enter Tryz.func109, Tryz.ntmps109
      go_upto_region 1 with (first | (refine qbx HL S ?_; clear F S HL; intro g w L HL S F) | (refine qal HL S zMx ?_; clear F S HL; intro g w L HL S F))
      go_upto_region 2 with (first | (go_at_call 70; refine qGr S (C_impl_MatrixValid _ _ _ _ _ _ (by first | exact HU.out.at_ S | exact HV.out.at_ S) (by first | exact H1.out | exact H2.out)) ?_; clear S; intro w S) | (go_at_call 116; refine qGr S (C_sameSides _ _ _ _ _ _ _ _ H3.out) ?_; clear S; intro w S))
      go_wp2_with (first | (refine qst HL S 0 ?_; clear F S HL; intro w L HL S F))
      ((try simp only [Exit.inBlock, Exit.then]); refine ret1 rfl (resCell S HL 0 rfl rfl (by kernel_rfl)) rfl ?_)
      exact ⟨_, rfl, S.nilMx _⟩
  | true =>
    rw [sumMx_ok hl] at ht
    subst ht
    dsimp only
    obtain ⟨R, C, N, e1, e2, e3, e4, r1, r2, c1, c2, hRC, hN, hN', hN2, _, _⟩ := like_partsL hl
    subst e1 e2 e3 e4
    simp only [likeMx, Bool.and_eq_true, decide_eq_true_eq] at hl
    obtain ⟨⟨⟨h1, h2⟩, _⟩, _⟩ := hl
    have H1 := Lib.hid h1
    have H2 := Lib.hid h2
    clear h1 h2
    have hN0 : 0 < N := by rw [← hRC]; exact Nat.mul_pos (by omega) (by omega)
    obtain ⟨ba, oa, rfl, hba, hca⟩ := hA1 (by omega)
    obtain ⟨bb, ob, rfl, hbb, hcb⟩ := hA2 (by omega)
    have HCA := Lib.hid hca
    have HCB := Lib.hid hcb
    have HN := Lib.hid hN
    have HN' := Lib.hid hN'
    have HNC := Lib.hid hRC
    clear hA1 hA2 hca hcb hN hN' hRC
    have CE := fun w => C_emptyMatrix R C N w HNC.out hN2
    unfold MakesMx at CE
    rw [tab_length] at CE ⊢
    obtain ⟨L, HL, S⟩ := st_start w0; have F : True := trivial
    go_enter Tryz.func109, Tryz.ntmps109
    go_upto_region 1 with (first | (refine qbd 3 HL S ?_; clear F S HL; intro ga w L HL S F) | (refine qbd 4 HL S ?_; clear F S HL; intro gb w L HL S F) | (refine qal HL S zMx ?_; clear F S HL; intro gr w L HL S F))
    go_upto_region 3 with (first | (go_at_call 70; refine qGr S (C_impl_MatrixValid _ _ _ _ _ _ (by first | exact HU.out.at_ S | exact HV.out.at_ S) (by first | exact H1.out | exact H2.out)) ?_; clear S; intro w S) | (go_at_call 116; refine qGr S (C_sameSides _ _ _ _ _ _ true _ (by simp)) ?_; clear S; intro w S))
    go_upto_region 4 with (first | (refine qal HL S zMx ?_; clear F S HL; intro g7 w L HL S F) | (refine qst HL S 0 ?_; clear F S HL; intro w L HL S F) | (go_at_call 103; refine (CE _).mono ?_; rintro e w ⟨u, rfl, T0⟩; have hX := qcl HL S T0; clear F S HL T0; obtain ⟨L, HL, S, F⟩ := hX; obtain ⟨A', cap', rfl, hcap', hmax'⟩ := qSl HL S 0))
    obtain ⟨gn, cn, ev, hcv, hmv⟩ := S.rowAt (p := 1) (atOf HL rfl) hN0
    obtain ⟨rfl, rfl⟩ : A' = some ⟨gn, 0, none⟩ ∧ cap' = cn := by injection ev with e1 _ e3; exact ⟨e1, e3⟩
    clear ev CE
    go_wp2
    go_loopw [33] (fun i wr => ∃ (k : Nat) (L : List Ent), k ≤ N ∧ i = .int .i64 k ∧ Hid (L = [.box g7 30 [.int .i64 R, .int .i64 C, .slice (some ⟨gn, 0, none⟩) N cap'], .row 3 1 (.slice (some ⟨gn, 0, none⟩) N cap') N (ints (tab N fun q => if q < k then sumsV xs ys q else 0)), .box gr 30 [.int .i64 0, .int .i64 0, .slice none 0 0], .box gb 30 [.int .i64 R, .int .i64 C, .slice (some ⟨bb, ob, none⟩) ys.length k2], .box ga 30 [.int .i64 R, .int .i64 C, .slice (some ⟨ba, oa, none⟩) xs.length k1]]) ∧ St w0 wr L) (fun i _ => N - (intOf i).toNat)
    case atStart => exact ⟨0, L, Nat.zero_le _, rfl, Lib.hid (by rw [HL.out, fil_zero]), S⟩
    case round =>
      clear F HL S
      obtain ⟨k, L, hk, rfl, HL, S⟩ := hrel
      have F := factsAll HL S
      simp only [factsOf, cellsFrom, and_true, true_and, Nat.reduceAdd] at F
      by_cases hlt : k < N
      · have hlx : k < xs.length := by rw [HN.out]; exact hlt
        have hly : k < ys.length := by rw [HN'.out]; exact hlt
        have c0 := (S.below.cell (p := ⟨ba, oa + k, none⟩) hba).trans (HCA.out k _ (ints_getD xs k hlx))
        have D1 := Lib.hid (HCB.out k _ (ints_getD ys k hly))
        have ea := fil_set (sumsV xs ys) N k
        have eq : addR (xs.getD k 0) (ys.getD k 0) = sumsV xs ys k := rfl
        generalize xs.getD k 0 = x at c0 eq
        generalize ys.getD k 0 = y at D1 eq
        generalize sumsV xs ys k = z at ea eq
        have EQ := Lib.hid eq
        have EA := Lib.hid ea
        clear ea eq
        go_upto_region 7 with fail
        have d1 := fun w' (S' : St w0 w' L) => (S'.below.cell (p := ⟨bb, ob + k, none⟩) hbb).trans D1.out
        have HL0 := HL; have F0 := F; refine wp_region_tree (S := fun w' => St w0 w' L) (qcs 0 10 (.act 10 (.calm 11 (.act 12 .fin .stop)) .stop)) (by kernel_rfl) (by kernel_rfl) (by kernel_rfl) (by intro c a d v w h; cases d <;> exact h) ?_; dsimp only [qcs, Nat.reduceAdd]; replace S := S.drew
        repeat (first | refine qCa ?_ | refine qAn ?_ | refine qSk ?_ | (refine tree_act rfl rfl ?_ tree_stop; intro K hK; (refine wp_store_row S _ _ _ rfl 1 _ _ _ _ _ _ _ (atOf HL rfl) rfl _ rfl (by kernel_rfl) rfl (by omega) ?_; clear F S; intro w L hM S; replace HL := qNm HL hM; clear hM; have F := qFc HL S); (refine qKo hK ?_; clear hK K)) | (refine tree_act rfl rfl ?_ tree_stop; intro K hK; go_wp2_with (first | (go_at_call 105; refine qPu (C_AddRingL _ _ _ _ (by exact EQ.out)) ?_)); (refine qKo hK ?_; clear hK K)))
        refine tree_fin ?_
        clear HL0 F0 d1
        go_wp2
        go_roundw
        case rel =>
          rw [← ints_set, EA.out] at HL
          exact ⟨k + 1, L, by omega, by go_num, HL, S⟩
        case measure => simp [intOf]; omega
      · obtain rfl : k = N := by omega
        have hlx : ¬ k < xs.length := by rw [HN.out]; omega
        go_wp2_with (first | (refine qst HL S 2 ?_; clear F S HL; intro w L HL S F))
        ((try simp only [Exit.inBlock, Exit.then]); refine ret1 rfl (resCell S HL 2 rfl rfl (by kernel_rfl)) rfl ?_)
        refine ⟨_, rfl, ?_⟩
        rw [fil_full] at HL
        rw [HN.out]
        exact (by rw [HL.out] at S; exact S.sub (by repeat (first | exact .refl _ | exact List.nil_sublist _ | apply List.Sublist.cons_cons | apply List.Sublist.cons)))
theorem C_impl_AddL (r c : Int) (xs : List Int) (r' c' : Int) (ys : List Int) (u v : Value) (t : Mx) (w0 : World) (h : Ints w0 u xs) (h' : Ints w0 v ys) (ht : sumMx ⟨r, c, xs⟩ ⟨r', c', ys⟩ = t) :
    Calls Tryz.prog 68 #[.agg #[.int .i64 r, .int .i64 c, u], .agg #[.int .i64 r', .int .i64 c', v]] w0 (MakesMx w0 t.r t.c t.xs) := by
  have CP := fun w h h' => C_pairAddL r c xs r' c' ys u v t w h h' ht
  unfold MakesMx at CP ⊢
  have HU := Lib.hid h
  have HV := Lib.hid h'
  obtain ⟨_, A1, k1, rfl, hk1, hm1, _⟩ := h
  obtain ⟨_, A2, k2, rfl, hk2, hm2, _⟩ := h'
  clear ht
  obtain ⟨L, HL, S⟩ := st_start w0; have F : True := trivial
  go_enter Tryz.func68, Tryz.ntmps68
  go_wp2_with (first | (refine qbx HL S ?_; clear F S HL; intro g w L HL S F) | (refine qal HL S zMx ?_; clear F S HL; intro g w L HL S F) | (refine qst HL S 0 ?_; clear F S HL; intro w L HL S F) | (refine qst HL S 1 ?_; clear F S HL; intro w L HL S F) | (refine qst HL S 2 ?_; clear F S HL; intro w L HL S F) | (refine qst HL S 3 ?_; clear F S HL; intro w L HL S F)  | (go_at_call 109; refine (CP _ (HU.out.at_ S) (HV.out.at_ S)).mono ?_; rintro e w ⟨u, rfl, T0⟩; have hX := qcl HL S T0; clear F S HL T0; obtain ⟨L, HL, S, F⟩ := hX; obtain ⟨A', cap', rfl, hcap', hmax'⟩ := qSl HL S 0))
  ((try simp only [Exit.inBlock, Exit.then]); refine ret1 rfl (resCell S HL 1 rfl rfl (by kernel_rfl)) rfl ?_)
  exact ⟨_, rfl, (by rw [HL.out] at S; exact S.sub (by repeat (first | exact .refl _ | exact List.nil_sublist _ | apply List.Sublist.cons_cons | apply List.Sublist.cons)))⟩
end
section
theorem add_sub_ring {x r : Int} (hx : rv x = true) (hr : rv r = true) : addR r (subR x r) = x := by
  have h1 : subR x r = ro (x - r) := by simp [subR, hx, hr]
  have h2 : rv (ro (x - r)) = true := rv_ro _
  rw [h1, addR, hr, h2]
  simp only [rv, Bool.and_eq_true, decide_eq_true_eq] at hx
  simp only [ro, Bool.and_self, if_true]
  omega
theorem sub_rv {x r : Int} (hx : rv x = true) (hr : rv r = true) : rv (subR x r) = true := by
  have h1 : subR x r = ro (x - r) := by simp [subR, hx, hr]
  rw [h1]
  exact rv_ro _
theorem ring_at {xs : List Int} (h : xs.all rv = true) {k : Nat} (hk : k < xs.length) : rv (xs.getD k 0) = true := by
  rw [List.getD_eq_getElem?_getD, List.getElem?_eq_getElem hk]
  exact List.all_eq_true.1 h _ (List.getElem_mem hk)
theorem tab_self (xs : List Int) : tab xs.length (fun k => xs.getD k 0) = xs := by
  apply List.ext_getElem?
  intro i
  rcases Nat.lt_or_ge i xs.length with h | h
  · have h1 := tab_getD xs.length (fun k => xs.getD k 0) i h
    rw [List.getD_eq_getElem?_getD, List.getD_eq_getElem?_getD] at h1
    rw [List.getElem?_eq_getElem (by rw [tab_length]; exact h), List.getElem?_eq_getElem h] at h1 ⊢
    simpa using h1
  · rw [List.getElem?_eq_none (by rw [tab_length]; exact h), List.getElem?_eq_none h]
theorem mx_nat {m : Mx} (h : m.ok = true) : ∃ R C : Nat, m = ⟨R, C, m.xs⟩ ∧ 1 ≤ R ∧ R ≤ 5 ∧ 1 ≤ C ∧ C ≤ 5 ∧ R * C = m.xs.length ∧ m.xs.length ≤ 25 ∧ m.xs.all rv = true := by
  obtain ⟨R, C, N, e, r1, r2, c1, c2, n1, n2, n3, n4⟩ := Mx.ok_nat h
  exact ⟨R, C, e, r1, r2, c1, c2, by omega, by omega, n4⟩
theorem seedOk_at {s : Int} (h : seedOk s = true) (k : Nat) : seedOk (seedAt s k) = true := by
  have := seedAt_pos (seedOk_bd h) k
  simp [seedOk, this.1, this.2]
def joinMx (m : SMx) : Mx := sumMx m.a m.b
end
section
def shiftAt (s : Int) : Sh := ⟨(rndTo s 2).getD 0 0, (rndTo s 2).getD 1 0⟩
def firstAt (s : Int) : List Int := rndTo (seedAt s 2) 4096
def secondV (vs : List Int) (s : Int) (i : Nat) : Int := subR (vs.getD (ro (i - joinS (shiftAt s))).toNat 0) ((firstAt s).getD i 0)
def secondAt (vs : List Int) (s : Int) : List Int := tab 4096 (secondV vs s)
def tabNext (s : Int) : Int := seedAt (seedAt s 2) 4096
def openAt (x : Sh) (s : Int) : Int := addR (joinS x) (joinS (shiftAt s))
def lookAt (vs : List Int) (x : Sh) (s : Int) : Sh := ⟨(firstAt s).getD (openAt x s).toNat 0, (secondAt vs s).getD (openAt x s).toNat 0⟩
def valsOf (k : Int) : List Int := tab 4096 fun x => fnAt k x
theorem valsOf_len (k : Int) : (valsOf k).length = 4096 := tab_length _ _
theorem valsOf_all (k : Int) : (valsOf k).all rv = true := tab_all fun q hq => fnAt_rv (by simp [rv]; omega)
theorem shiftAt_ok (s : Int) : (shiftAt s).ok = true := sh_ok2 (rndTo_ring s 2 0 (by omega)) (rndTo_ring s 2 1 (by omega))
theorem firstAt_len (s : Int) : (firstAt s).length = 4096 := rndTo_length _ _
theorem secondAt_len (vs : List Int) (s : Int) : (secondAt vs s).length = 4096 := tab_length _ _
theorem tabNext_ok {s : Int} (h : seedOk s = true) : seedOk (tabNext s) = true := seedOk_at (seedOk_at h 2) 4096
theorem openAt_bd {x : Sh} (hx : x.ok = true) (s : Int) : 0 ≤ openAt x s ∧ openAt x s < 4096 := by
  have h1 := (join_ro hx).2
  have h2 := (join_ro (shiftAt_ok s)).2
  have : openAt x s = ro (joinS x + joinS (shiftAt s)) := by simp [openAt, addR, h1, h2]
  rw [this]
  have := rv_ro (joinS x + joinS (shiftAt s))
  simpa [rv] using this
theorem look_join {vs : List Int} (hl : vs.length = 4096) (hv : vs.all rv = true) {x : Sh} (hx : x.ok = true) (s : Int) :
    (lookAt vs x s).ok = true ∧ joinS (lookAt vs x s) = vs.getD (joinS x).toNat 0 := by
  have h1 := (join_ro hx).2
  have h2 := (join_ro (shiftAt_ok s)).2
  have ho := openAt_bd hx s
  have he : openAt x s = ro (joinS x + joinS (shiftAt s)) := by simp [openAt, addR, h1, h2]
  have h1' : 0 ≤ joinS x ∧ joinS x < 4096 := by simpa [rv] using h1
  obtain ⟨o, hO⟩ : ∃ o : Nat, openAt x s = (o : Int) := ⟨(openAt x s).toNat, by omega⟩
  have ho' : o < 4096 := by omega
  have hb : ro ((o : Int) - joinS (shiftAt s)) = joinS x := by
    rw [← hO, he]
    unfold ro
    omega
  have hr : rv ((firstAt s).getD o 0) = true := rndTo_ring _ _ _ ho'
  have hvx : rv (vs.getD (joinS x).toNat 0) = true := ring_at hv (by omega)
  have e2 : (secondAt vs s).getD o 0 = subR (vs.getD (joinS x).toNat 0) ((firstAt s).getD o 0) := by
    unfold secondAt
    rw [tab_getD _ _ _ ho']
    unfold secondV
    rw [hb]
  unfold lookAt
  rw [hO, Int.toNat_natCast, e2]
  clear e2 hb
  generalize (firstAt s).getD o 0 = f at hr ⊢
  generalize vs.getD (joinS x).toNat 0 = y at hvx ⊢
  exact ⟨sh_ok2 hr (sub_rv hvx hr), add_sub_ring hvx hr⟩
def seedT (s : Int) : Nat → Int
  | 0 => s
  | k + 1 => tabNext (seedT s k)
theorem seedT_ok {s : Int} (h : seedOk s = true) : ∀ k, seedOk (seedT s k) = true
  | 0 => h
  | k + 1 => tabNext_ok (seedT_ok h k)
def shAt (m : SMx) (i : Nat) : Sh := ⟨m.a.xs.getD i 0, m.b.xs.getD i 0⟩
def mapA (k : Int) (m : SMx) (s : Int) (i : Nat) : Int := (lookAt (valsOf k) (shAt m i) (seedT s i)).a
def mapB (k : Int) (m : SMx) (s : Int) (i : Nat) : Int := (lookAt (valsOf k) (shAt m i) (seedT s i)).b
def mapO (m : SMx) (s : Int) (i : Nat) : Int := openAt (shAt m i) (seedT s i)
def mapOk (k : Int) (m : SMx) (s : Int) : Bool := m.ok && (decide (1 ≤ k) && decide (k ≤ 5)) && seedOk s
def mapS (k : Int) (m : SMx) (s : Int) : Scd :=
  if mapOk k m s then ⟨⟨⟨m.a.r, m.a.c, tab m.a.xs.length (mapA k m s)⟩, ⟨m.a.r, m.a.c, tab m.a.xs.length (mapB k m s)⟩⟩, tab m.a.xs.length (mapO m s), seedT s m.a.xs.length⟩
  else ⟨SMx.zero, [], 0⟩
theorem mapS_ok {k : Int} {m : SMx} {s : Int} (h : mapOk k m s = true) : mapS k m s = ⟨⟨⟨m.a.r, m.a.c, tab m.a.xs.length (mapA k m s)⟩, ⟨m.a.r, m.a.c, tab m.a.xs.length (mapB k m s)⟩⟩, tab m.a.xs.length (mapO m s), seedT s m.a.xs.length⟩ := by
  unfold mapS
  rw [if_pos h]
theorem mapS_not {k : Int} {m : SMx} {s : Int} (h : mapOk k m s = false) : mapS k m s = ⟨SMx.zero, [], 0⟩ := by
  unfold mapS
  rw [h]
  rfl
theorem smx_nat {m : SMx} (h : m.ok = true) : ∃ (R C N : Nat) (xs ys : List Int), m = ⟨⟨R, C, xs⟩, ⟨R, C, ys⟩⟩ ∧ 1 ≤ R ∧ R ≤ 5 ∧ 1 ≤ C ∧ C ≤ 5 ∧ R * C = N ∧ xs.length = N ∧ ys.length = N ∧ N ≤ 25 ∧ xs.all rv = true ∧ ys.all rv = true := by
  obtain ⟨⟨r, c, xs⟩, ⟨r', c', ys⟩⟩ := m
  obtain ⟨R, C, N, rfl, rfl, rfl, rfl, r1, r2, c1, c2, hRC, hN, hN', hN2, a1, a2⟩ := like_partsL h
  exact ⟨R, C, N, xs, ys, rfl, r1, r2, c1, c2, hRC, hN, hN', hN2, a1, a2⟩
theorem shAt_ok {m : SMx} (h : m.ok = true) {i : Nat} (hi : i < m.a.xs.length) : (shAt m i).ok = true := by
  obtain ⟨R, C, N, xs, ys, rfl, _, _, _, _, _, hN, hN', _, a1, a2⟩ := smx_nat h
  exact sh_ok2 (ring_at a1 hi) (ring_at a2 (by dsimp only at hi; omega))
theorem join_at {m : SMx} (h : m.ok = true) {i : Nat} (hi : i < m.a.xs.length) : (joinMx m).xs.getD i 0 = joinS (shAt m i) := by
  unfold joinMx
  rw [sumMx_ok h]
  dsimp only
  rw [tab_getD _ _ _ hi]
  rfl
theorem join_smx {m : SMx} (h : m.ok = true) : (joinMx m).ok = true ∧ (joinMx m).r = m.a.r ∧ (joinMx m).c = m.a.c ∧ (joinMx m).xs.length = m.a.xs.length := by
  obtain ⟨R, C, N, xs, ys, rfl, r1, r2, c1, c2, hRC, hN, hN', hN2, a1, a2⟩ := smx_nat h
  unfold joinMx
  rw [sumMx_ok h]
  dsimp only
  refine ⟨Mx.ok_of r1 r2 c1 c2 (by rw [tab_length, hN, hRC]) (tab_all fun q hq => ?_), rfl, rfl, tab_length _ _⟩
  have := (join_ro (sh_ok2 (ring_at a1 hq) (ring_at a2 (by omega : q < ys.length)))).2
  exact this
theorem mapS_join {k : Int} {m : SMx} {s : Int} (h : mapOk k m s = true) :
    (mapS k m s).m.ok = true ∧ joinMx (mapS k m s).m = mapMx k (joinMx m) ∧ seedOk (mapS k m s).last = true ∧ (mapS k m s).os.length = m.a.xs.length := by
  have h' := h
  simp only [mapOk, Bool.and_eq_true] at h'
  have hm := h'.1.1
  have hs := h'.2
  rw [mapS_ok h]
  dsimp only
  have hj := join_smx hm
  obtain ⟨R, C, N, xs, ys, rfl, r1, r2, c1, c2, hRC, hN, hN', hN2, a1, a2⟩ := smx_nat hm
  dsimp only at hj ⊢
  have hl := fun i (hi : i < xs.length) => look_join (valsOf_len k) (valsOf_all k) (shAt_ok hm (i := i) hi) (seedT s i)
  have hok : SMx.ok ⟨⟨R, C, tab xs.length (mapA k ⟨⟨R, C, xs⟩, ⟨R, C, ys⟩⟩ s)⟩, ⟨R, C, tab xs.length (mapB k ⟨⟨R, C, xs⟩, ⟨R, C, ys⟩⟩ s)⟩⟩ = true := by
    have g := fun i hi => by have := (hl i hi).1; simp only [Sh.ok, Bool.and_eq_true] at this; exact this
    have o1 : (Mx.mk R C (tab xs.length (mapA k ⟨⟨R, C, xs⟩, ⟨R, C, ys⟩⟩ s))).ok = true := Mx.ok_of r1 r2 c1 c2 (by rw [tab_length, hN, hRC]) (tab_all fun q hq => (g q hq).1)
    have o2 : (Mx.mk R C (tab xs.length (mapB k ⟨⟨R, C, xs⟩, ⟨R, C, ys⟩⟩ s))).ok = true := Mx.ok_of r1 r2 c1 c2 (by rw [tab_length, hN, hRC]) (tab_all fun q hq => (g q hq).2)
    simp [SMx.ok, likeMx, o1, o2]
  refine ⟨hok, ?_, seedT_ok hs _, tab_length _ _⟩
  obtain ⟨_, e1, e2, e3⟩ := hj
  have e4 : mapMx k (joinMx ⟨⟨R, C, xs⟩, ⟨R, C, ys⟩⟩) = ⟨R, C, tab xs.length (mapV k (joinMx ⟨⟨R, C, xs⟩, ⟨R, C, ys⟩⟩).xs)⟩ := by
    unfold mapMx
    rw [e1, e2, e3]
  rw [e4]
  unfold joinMx
  rw [sumMx_ok hok]
  dsimp only
  rw [tab_length]
  refine congrArg (Mx.mk R C) (tab_congr _ _ _ fun i hi => ?_)
  show addR ((tab xs.length _).getD i 0) ((tab xs.length _).getD i 0) = fnAt k _
  rw [tab_getD _ _ _ hi, tab_getD _ _ _ hi]
  have e5 := (hl i hi).2
  have e6 := join_at hm (i := i) hi
  unfold joinMx at e6
  rw [e6]
  refine e5.trans ?_
  have hb := (join_ro (shAt_ok hm (i := i) hi)).2
  have hb' : 0 ≤ joinS (shAt ⟨⟨R, C, xs⟩, ⟨R, C, ys⟩⟩ i) ∧ joinS (shAt ⟨⟨R, C, xs⟩, ⟨R, C, ys⟩⟩ i) < 4096 := by simpa [rv] using hb
  unfold valsOf
  rw [tab_getD _ _ _ (by omega), Int.toNat_of_nonneg hb'.1]
end
section
theorem C_in' (n lo hi : Int) (b : Bool) (w0 : World) (h : (decide (lo ≤ n) && decide (n ≤ hi)) = b) : Calls Tryz.prog 44 #[.int .i64 n, .int .i64 lo, .int .i64 hi] w0 fun e w' => e = .returned (.bool b) ∧ w0 = w' := h ▸ C_spec_l1In n lo hi w0
theorem C_spec_RandomMatrix (R C N : Nat) (s : Int) (w0 : World) (hs : seedOk s = true) (r1 : 1 ≤ R) (r2 : R ≤ 5) (c1 : 1 ≤ C) (c2 : C ≤ 5) (hRC : R * C = N) (hN2 : N ≤ 25) :
    Calls Tryz.prog 154 #[.int .i64 R, .int .i64 C, .int .i64 s] w0 fun e w => ∃ u, e = .returned (.tuple #[.agg #[.int .i64 R, .int .i64 C, u], .int .i64 (seedAt s N)]) ∧ St w0 w [.row 3 1 u N (ints (rndTo s N))] := by
  have HSd := Lib.hid (show (decide (1 ≤ s) && decide (s ≤ 2147483646)) = true from hs)
  have hb := seedOk_bd hs
  have CN := fun w => C_spec_l4List s N w ⟨by omega, hb.2⟩ (by omega)
  clear hs hb
  unfold MakesRnd at CN
  have hR : sideOk (R : Int) = true := sideOk_iff.2 ⟨by omega, by omega⟩
  have hC : sideOk (C : Int) = true := sideOk_iff.2 ⟨by omega, by omega⟩
  have w1 : (R : Int) * (C : Int) = (N : Int) := by rw [← hRC, Int.natCast_mul]
  have HR := Lib.hid (show (decide (1 ≤ (R : Int)) && decide ((R : Int) ≤ 5)) = true from hR)
  have HC := Lib.hid (show (decide (1 ≤ (C : Int)) && decide ((C : Int) ≤ 5)) = true from hC)
  clear hRC hR hC
  obtain ⟨L, HL, S⟩ := st_start w0; have F : True := trivial
  go_enter Tryz.func154, Tryz.ntmps154
  go_upto_region 1 with (first | (refine qal HL S zMx ?_; clear F S HL; intro gr w L HL S F))
  go_upto_region 3 with (first | (go_at_call 44; refine qPu (C_in' _ _ _ _ _ (by first | exact HSd.out | exact HR.out | exact HC.out)) ?_))
  go_wp2_with (first | (refine qst HL S 0 ?_; clear F S HL; intro w L HL S F) | (refine qst HL S 1 ?_; clear F S HL; intro w L HL S F) | (go_at_call 130; refine (CN _).mono ?_; rintro e w ⟨u, rfl, T0⟩; have hX := qcl HL S T0; clear F S HL T0; obtain ⟨L, HL, S, F⟩ := hX; obtain ⟨A', cap', rfl, hcap', hmax'⟩ := qSl HL S 0))
  refine ret2 rfl (resCell S HL 1 rfl rfl (by kernel_rfl)) (show _ = _ from rfl) rfl ?_
  exact ⟨_, rfl, (by rw [HL.out] at S; exact S.sub (by repeat (first | exact .refl _ | exact List.nil_sublist _ | apply List.Sublist.cons_cons | apply List.Sublist.cons)))⟩
theorem C_specSub' (a b q : Int) (w0 : World) (h : subR a b = q) : Calls Tryz.prog 186 #[.int .i64 a, .int .i64 b] w0 fun e w' => e = .returned (.int .i64 q) ∧ w0 = w' := h ▸ C_spec_SubRing a b w0
def subV (xs ys : List Int) (k : Nat) : Int := subR (xs.getD k 0) (ys.getD k 0)
theorem C_spec_SubMatrices (R C N : Nat) (xs ys : List Int) (u v : Value) (w0 : World) (h : Ints w0 u xs) (h' : Ints w0 v ys) (r1 : 1 ≤ R) (r2 : R ≤ 5) (c1 : 1 ≤ C) (c2 : C ≤ 5) (hRC : R * C = N) (hN : xs.length = N) (hN' : ys.length = N) (hN2 : N ≤ 25) (a1 : xs.all rv = true) (a2 : ys.all rv = true) :
    Calls Tryz.prog 155 #[.agg #[.int .i64 R, .int .i64 C, u], .agg #[.int .i64 R, .int .i64 C, v]] w0 (MakesMx w0 R C (tab N (subV xs ys))) := by
  unfold MakesMx
  have HU := Lib.hid h
  have HV := Lib.hid h'
  obtain ⟨_, A1, k1, rfl, hk1, hm1, _⟩ := h
  obtain ⟨_, A2, k2, rfl, hk2, hm2, _⟩ := h'
  have hl : likeMx ⟨R, C, xs⟩ ⟨R, C, ys⟩ = true := by
    simp only [likeMx, Bool.and_eq_true, decide_eq_true_eq]
    exact ⟨⟨⟨Mx.ok_of r1 r2 c1 c2 (by rw [hN, hRC]) a1, Mx.ok_of r1 r2 c1 c2 (by rw [hN', hRC]) a2⟩, trivial⟩, trivial⟩
  have H1 := Lib.hid hl
  have hN0 : 0 < N := by rw [← hRC]; exact Nat.mul_pos (by omega) (by omega)
  have HN := Lib.hid hN
  have HN' := Lib.hid hN'
  have B1 := Lib.hid (show xs.length ≤ 1048576 by omega)
  have B2 := Lib.hid (show ys.length ≤ 1048576 by omega)
  clear hl hN hN' hRC a1 a2
  have CO := fun r c xs v w h hn => C_l1OwnMatrix r c xs v w h hn
  unfold MakesMx at CO
  rw [tab_length]
  obtain ⟨L, HL, S⟩ := st_start w0; have F : True := trivial
  go_enter Tryz.func155, Tryz.ntmps155
  go_upto_region 3 with (first | (refine qbd 2 HL S ?_; clear F S HL; intro ga w L HL S F) | (refine qbd 3 HL S ?_; clear F S HL; intro gb w L HL S F) | (refine qal HL S zMx ?_; clear F S HL; intro gr w L HL S F) | (go_at_call 88; refine (CO _ _ _ _ _ (by first | exact HU.out.at_ S | exact HV.out.at_ S) (by first | exact B1.out | exact B2.out)).mono ?_; rintro e w ⟨u, rfl, T0⟩; have hX := qcl HL S T0; clear F S HL T0; obtain ⟨L, HL, S, F⟩ := hX; obtain ⟨A', cap', rfl, hcap', hmax'⟩ := qSl HL S 0) | (refine qst HL S 1 ?_; clear F S HL; intro w L HL S F) | (refine qst HL S 2 ?_; clear F S HL; intro w L HL S F) | (refine qst HL S 3 ?_; clear F S HL; intro w L HL S F) | (refine qst HL S 4 ?_; clear F S HL; intro w L HL S F))
  clear CO
  obtain ⟨g2, q2, e2, hq2, hs2⟩ := S.rowAt (p := 0) (atOf HL rfl) (by rw [HN'.out]; omega)
  obtain ⟨g1, q1, e1, hq1, hs1⟩ := S.rowAt (p := 1) (atOf HL rfl) (by rw [HN.out]; omega)
  rw [e1, e2] at HL ⊢
  clear e1 e2 F
  have F := factsAll HL S
  simp only [factsOf, cellsFrom, and_true, true_and, Nat.reduceAdd] at F
  go_upto_region 5 with (first | (go_at_call 89; refine qGr S (C_spec_l3Like _ _ _ _ _ _ _ _ _ _ (by exact (Sees.row S qAt).ints) (by exact (Sees.row S qAt).ints) (by exact H1.out)) ?_; clear S; intro w S))
  go_upto_region 6 with (first | (refine qal HL S zMx ?_; clear F S HL; intro g5 w L HL S F) | (refine qst HL S 0 ?_; clear F S HL; intro w L HL S F))
  rw [HL.out] at S
  replace S := S.nilRow 3 1
  clear HL F
  obtain ⟨L, hM, T⟩ := st_name S; clear S; have S := T; clear T; have HL := Lib.hid hM; clear hM; have F := qFc HL S
  go_wp2
  go_loopw [6] (fun i wr => ∃ (k : Nat) (E1 : Option Addr) (m1 : Nat) (L : List Ent), k ≤ N ∧ i = .int .i64 k ∧ Hid (L = [.row 3 1 (.slice E1 k m1) k (ints (tab k (subV xs ys))), .box g5 30 [.int .i64 R, .int .i64 C, .slice E1 k m1], .row 3 1 (.slice (some ⟨g2, 0, none⟩) ys.length q2) ys.length (ints ys), .row 3 1 (.slice (some ⟨g1, 0, none⟩) xs.length q1) xs.length (ints xs), .box gr 30 [.int .i64 0, .int .i64 0, .slice none 0 0], .box gb 30 [.int .i64 R, .int .i64 C, .slice (some ⟨g2, 0, none⟩) ys.length q2], .box ga 30 [.int .i64 R, .int .i64 C, .slice (some ⟨g1, 0, none⟩) xs.length q1]]) ∧ St w0 wr L) (fun i _ => N - (intOf i).toNat)
  case atStart => exact ⟨0, none, 0, L, Nat.zero_le _, rfl, HL, S⟩
  case round =>
    clear F HL S
    obtain ⟨k, E1, m1, L, hk, rfl, HL, S⟩ := hrel
    have F := factsAll HL S
    simp only [factsOf, cellsFrom, and_true, true_and, Nat.reduceAdd] at F
    by_cases hlt : k < N
    · have hlx : k < xs.length := by rw [HN.out]; exact hlt
      have hly : k < ys.length := by rw [HN'.out]; exact hlt
      have X0 := Lib.hid (ints_getD xs k hlx)
      have Y0 := Lib.hid (ints_getD ys k hly)
      have ea := tab_succ k (subV xs ys)
      have eq : subR (xs.getD k 0) (ys.getD k 0) = subV xs ys k := rfl
      generalize xs.getD k 0 = x at X0 eq
      generalize ys.getD k 0 = y at Y0 eq
      generalize subV xs ys k = z at ea eq
      have EQ := Lib.hid eq
      have EA := Lib.hid ea
      clear ea eq
      go_upto_region 9 with fail
      have hT := congrArg List.tail HL.out; simp only [List.tail_cons] at hT; obtain ⟨L1, hL1⟩ : ∃ M, M = L.tail := ⟨_, rfl⟩; rw [← hL1] at hT; have HL0 := Lib.hid hT; have S1 := S.sub (List.tail_sublist L); rw [← hL1] at S1; have F0 := qFc HL0 S1; clear S1 hL1 hT; (have d0 := fun w' (S' : St w0 w' L1) => (S'.rowCell (p := 2) (atOf HL0 rfl) k (by omega)).trans X0.out); (have d1 := fun w' (S' : St w0 w' L1) => (S'.rowCell (p := 1) (atOf HL0 rfl) k (by omega)).trans Y0.out); refine wp_region_tree (S := fun w' => St w0 w' L1) (qcs 0 12 (.act 12 (.act 13 (.act 14 (.calm 15 (.act 16 .fin .stop)) .stop) .stop) .stop)) (by kernel_rfl) (by kernel_rfl) (by kernel_rfl) (by intro c a d v w h; cases d <;> exact h) ?_; dsimp only [qcs, Nat.reduceAdd]; replace S := S.drew
      repeat (first | refine qCa ?_ | refine qAn ?_ | refine qSk ?_ | (refine tree_act rfl rfl ?_ tree_stop; intro K hK; (refine wp_lit1 S _ _ rfl 3 Tryz.underlying23 infoInt _ rfl ?_; clear F S; intro g w L hM S; replace HL := qNm HL hM; clear hM; have F := qFc HL S); (refine qKo hK ?_; clear hK K)) | (refine tree_act rfl rfl ?_ tree_stop; intro K hK; (refine wp_append_box S _ _ _ rfl 3 _ 1 8 Tryz.underlying23 infoInt rfl (by omega) 1 _ _ _ rfl (atOf HL rfl) (by omega) 0 _ _ _ _ _ rfl (atOf HL rfl) rfl rfl rfl rfl ?_; clear F S; intro u w L hM S; replace HL := qNm HL hM; clear hM; have F := qFc HL S; obtain ⟨A', cap', rfl, hcap', hmax'⟩ := qSl HL S 1); (refine qKo hK ?_; clear hK K)) | (refine tree_act rfl rfl ?_ tree_stop; intro K hK; (refine qsw HL S 2 ?_; clear F S HL; intro w L HL S F); (refine qKo hK ?_; clear hK K)) | (refine tree_act rfl rfl ?_ tree_stop; intro K hK; go_wp2_with (first | (go_at_call 186; refine qPu (C_specSub' _ _ _ _ (by exact EQ.out)) ?_)); (refine qKo hK ?_; clear hK K)))
      refine tree_fin ?_
      clear HL0 F0 d0 d1
      go_wp2
      go_roundw
      case rel =>
        have e1 : ints (tab k (subV xs ys)) ++ [.int .i64 z] = ints (tab (k + 1) (subV xs ys)) := by rw [EA.out, ints_append]; rfl
        rw [HL.out, e1] at S
        exact ⟨k + 1, _, _, _, by omega, by go_num, Lib.hid rfl, S.sub (.cons _ (.refl _))⟩
      case measure => simp [intOf]; omega
    · obtain rfl : k = N := by omega
      have hlx : ¬ k < xs.length := by rw [HN.out]; omega
      go_wp2_with (first | (refine qst HL S 4 ?_; clear F S HL; intro w L HL S F))
      ((try simp only [Exit.inBlock, Exit.then]); refine ret1 rfl (resCell S HL 4 rfl rfl (by kernel_rfl)) rfl ?_)
      exact ⟨_, rfl, (by rw [HL.out] at S; exact S.sub (by repeat (first | exact .refl _ | exact List.nil_sublist _ | apply List.Sublist.cons_cons | apply List.Sublist.cons)))⟩
end
section
theorem rndTo_all (s : Int) (n : Nat) : (rndTo s n).all rv = true := by
  rw [List.all_eq_true]
  intro x hx
  obtain ⟨i, hi⟩ := List.mem_iff_getElem?.1 hx
  obtain ⟨h, rfl⟩ := List.getElem?_eq_some_iff.1 hi
  have := rndTo_ring s n i (by rw [← rndTo_length s n]; exact h)
  rwa [List.getD_eq_getElem?_getD, List.getElem?_eq_getElem h] at this
end
end Go.Proofs.YtjgfjfjboimgdaaGreat
