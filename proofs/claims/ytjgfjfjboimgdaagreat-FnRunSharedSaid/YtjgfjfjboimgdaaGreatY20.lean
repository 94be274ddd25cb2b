/- ShI ShJ SnP MxL -/
import Derived.Test.YtjgfjfjboimgdaaGreatY16
import Derived.Test.YtjgfjfjboimgdaaGreatY19
namespace Go.Proofs.YtjgfjfjboimgdaaGreat
set_option linter.unusedSimpArgs false
set_option linter.unusedVariables false
set_option linter.unusedSectionVars false
open Go Go.RowKit
set_option maxHeartbeats 8000000
set_option maxRecDepth 20000
section
attribute [local irreducible] wpList Oper.wp Calls
theorem smx_few {m : SMx} (h : m.ok = true) : m.a.xs.length ≤ 25 := by
  obtain ⟨R, C, N, xs, ys, rfl, _, _, _, _, _, hN, _, hN2, _⟩ := smx_nat h
  show xs.length ≤ 25
  omega
theorem mapS_few (k : Int) (m : SMx) (s : Int) : (mapS k m s).os.length ≤ 25 := by
  cases h : mapOk k m s with
  | false => rw [mapS_not h]; exact Nat.zero_le _
  | true =>
    rw [mapS_ok h]
    simp only [mapOk, Bool.and_eq_true] at h
    show (tab _ _).length ≤ 25
    rw [tab_length]
    exact smx_few h.1.1
theorem prodS_few (x y : SMx) (s : Int) : (prodS x y s).os.length ≤ 50 := by
  cases h : prodOk x y s with
  | false => rw [prodS_not h]; exact Nat.zero_le _
  | true =>
    rw [(prodS_join h).2.2.2.2.2]
    simp only [prodOk, Bool.and_eq_true] at h
    have h1 := smx_few h.1.1.1
    have h2 := smx_few h.1.1.2
    omega
theorem scaleS_few (x y : SMx) (s : Int) : (scaleS x y s).os.length ≤ 50 := by
  cases h : scaleOk x y s with
  | false => rw [scaleS_not h]; exact Nat.zero_le _
  | true =>
    unfold scaleS
    rw [if_pos h]
    show (Scl.opened _ _).length ≤ 50
    rw [Scl.opened_length]
    simp only [scaleOk, Bool.and_eq_true] at h
    have h1 := smx_few h.1.1.1.1
    omega
def SeenIn (w0 : World) (L : List Ent) (q : Nat) (u : Value) (xs : List Int) : Prop := Ints w0 u xs ∨ ∃ k t, k ≠ q ∧ L[k]? = some (.row t 1 u xs.length (ints xs))
theorem seen_in {w0 w : World} {L L' : List Ent} {q : Nat} {u : Value} {xs : List Int} (h : SeenIn w0 L q u xs) (S : St w0 w L') (hs : ∀ e ∈ L, e ∈ L') : Ints w u xs := by
  rcases h with h | ⟨k, t, _, hk⟩
  · exact Sees.at_ h S
  · exact Sees.own (S.own _ (hs _ (List.mem_of_getElem? hk)))
theorem at_set {L : List Ent} {p : Nat} {e e' : Ent} (h : At L p e) : At (L.set p e') p e' := by
  unfold At
  rw [List.getElem?_set_self (List.getElem?_eq_some_iff.1 h.get).1]
theorem at_set_ne {L : List Ent} {p q : Nat} {e e' : Ent} (h : At L p e) (hne : q ≠ p) : At (L.set q e') p e := by
  unfold At
  rw [List.getElem?_set_ne hne]
  exact h
theorem C_take (L0 : List Ent) (p q gs n m : Nat) (s0 s1 : Int) (o x : Value) (os xs : List Int) (r c r' c' : Int) (Au At' : Option Addr) (nu cu nt ct : Nat) (w0 w1 : World) (S0 : St w0 w1 L0)
    (hp : At L0 p (.box gs 85 [.int .i64 s0, o])) (hq : At L0 q (.row 3 1 o n (ints os))) (hx : ∃ k t, At L0 k (.row t 1 x m (ints xs))) (hpq : q ≠ p) (hn : n ≤ 1000000) (hm : m ≤ 1000000) :
    Calls Tryz.prog 75 #[.pointer (some ⟨gs, 0, none⟩), .agg #[.int .i64 r, .int .i64 c, .slice Au nu cu, .int .i64 r', .int .i64 c', .slice At' nt ct], x, .int .i64 s1] w1 fun e w' => ∃ o', e = .returned (.agg #[.int .i64 r, .int .i64 c, .slice Au nu cu, .int .i64 r', .int .i64 c', .slice At' nt ct]) ∧ St w0 w' ((L0.set q (.row 3 1 o' (n + m) (ints (os ++ xs)))).set p (.box gs 85 [.int .i64 s1, o'])) := by
  obtain ⟨A, co, rfl, hc1, hc2⟩ := S0.sliceOf hq
  obtain ⟨k, t, hk⟩ := hx
  obtain ⟨A2, c2, rfl, hc3, hc4⟩ := S0.sliceOf hk
  obtain ⟨L, HL, S⟩ := st_name S0
  clear S0
  replace HL := Lib.hid HL
  have F : True := trivial
  have H1 := Lib.hid hp
  have H2 := Lib.hid hq
  have HK := Lib.hid hk
  clear hp hq hk
  go_enter Tryz.func75, Tryz.ntmps75
  go_upto_region 1 with (first | (refine qbd 5 HL S ?_; clear F S HL; intro g5 w L HL S F) | (refine qal HL S zSMx ?_; clear F S HL; intro g8 w L HL S F))
  have d1 : ∀ w' (S' : St w0 w' L), w'.cell? ⟨gs, 1, none⟩ = some (.slice A n co) := fun w' S' => S'.cell (atOf HL (At.cons (At.cons H1.out))) 1
  go_upto_region 2 with (first | ((refine wpList_append_see rfl S _ _ _ rfl _ 3 _ 1 8 Tryz.underlying23 infoInt rfl (by omega) _ _ _ rfl (atOf HL (At.cons (At.cons H2.out))) _ _ _ rfl (by exact Sees.row S (atOf HL (At.cons (At.cons HK.out)))) (ints_one _) (by simp only [maxLen]; omega) (by omega) ?_; clear F S; intro u' w L hM S; replace HL := qNm HL hM; clear hM; have F := qFc HL S); obtain ⟨A3, c3, rfl, hc5, hc6⟩ := S.sliceOf (atOf HL (At.cons (At.cons (at_set H2.out))))) | (refine wpList_store_box rfl S _ _ _ rfl (p + 2) _ _ _ _ (atOf HL (At.cons (At.cons (at_set_ne H1.out hpq)))) rfl _ rfl (by kernel_rfl) rfl rfl ?_; clear F S; intro w L hM S; replace HL := qNm HL hM; clear hM; have F := qFc HL S))
  clear d1
  go_wp2_with (first | refine qLb6 S ?_ | (refine wpList_store_box rfl S _ _ _ rfl (p + 2) _ _ _ _ (atOf HL (At.cons (At.cons (at_set (at_set_ne H1.out hpq))))) rfl _ rfl (by kernel_rfl) rfl rfl ?_; clear F S; intro w L hM S; replace HL := qNm HL hM; clear hM; have F := qFc HL S) | (refine qst HL S 0 ?_; clear F S HL; intro w L HL S F))
  ((try simp only [Exit.inBlock, Exit.then]); refine ret1 rfl (resCell S HL 0 rfl rfl (by kernel_rfl)) rfl ?_)
  rw [HL.out] at S
  rw [ints_append]
  exact ⟨_, rfl, S.sub (.cons _ (.cons _ (.refl _)))⟩
def Steps (L0 : List Ent) (p q gs : Nat) (os : List Int) (z : Scd) (w0 : World) (e : Ending) (w : World) : Prop :=
  ∃ (o' : Value) (Au At' : Option Addr) (cu ct : Nat), e = .returned (.agg #[.int .i64 z.m.a.r, .int .i64 z.m.a.c, .slice Au z.m.a.xs.length cu, .int .i64 z.m.b.r, .int .i64 z.m.b.c, .slice At' z.m.b.xs.length ct]) ∧
    St w0 w (.row 3 1 (.slice At' z.m.b.xs.length ct) z.m.b.xs.length (ints z.m.b.xs) :: .row 3 1 (.slice Au z.m.a.xs.length cu) z.m.a.xs.length (ints z.m.a.xs) :: ((L0.set q (.row 3 1 o' (os.length + z.os.length) (ints (os ++ z.os)))).set p (.box gs 85 [.int .i64 z.last, o'])))
theorem C_look (L0 : List Ent) (p q gs : Nat) (k s0 : Int) (o : Value) (os : List Int) (r c : Int) (xs : List Int) (r' c' : Int) (ys : List Int) (u v : Value) (z : Scd) (w0 w1 : World) (S0 : St w0 w1 L0)
    (hp : At L0 p (.box gs 85 [.int .i64 s0, o])) (hq : At L0 q (.row 3 1 o os.length (ints os))) (hpq : q ≠ p) (hn : os.length ≤ 900000) (hu : SeenIn w0 L0 q u xs) (hv : SeenIn w0 L0 q v ys) (hz : mapS k ⟨⟨r, c, xs⟩, ⟨r', c', ys⟩⟩ s0 = z) :
    Calls Tryz.prog 55 #[.pointer (some ⟨gs, 0, none⟩), .int .i64 k, .agg #[.int .i64 r, .int .i64 c, u, .int .i64 r', .int .i64 c', v]] w1 (Steps L0 p q gs os z w0) := by
  unfold Steps
  have hfew : z.os.length ≤ 25 := by rw [← hz]; exact mapS_few _ _ _
  have CM := fun w h h' => C_impl_MapShared k r c xs r' c' ys u v s0 z w h h' hz
  unfold MakesScl at CM
  obtain ⟨no, hno⟩ : ∃ n, os.length = n := ⟨_, rfl⟩
  rw [hno] at hq hn ⊢
  obtain ⟨A, co, rfl, hc1, hc2⟩ := S0.sliceOf hq
  obtain ⟨L, HL, S⟩ := st_name S0
  clear S0
  replace HL := Lib.hid HL
  have F : True := trivial
  have H1 := Lib.hid hp
  have H2 := Lib.hid hq
  have HU := Lib.hid hu
  have HV := Lib.hid hv
  have HF := Lib.hid hfew
  clear hp hq hno hz hfew hu hv
  go_enter Tryz.func55, Tryz.ntmps55
  go_upto_region 1 with (first | (refine qbd 5 HL S ?_; clear F S HL; intro g5 w L HL S F) | (refine qal HL S zSMx ?_; clear F S HL; intro g6 w L HL S F))
  have d0 : ∀ w' (S' : St w0 w' L), w'.cell? ⟨gs, 0, none⟩ = some (.int .i64 s0) := fun w' S' => S'.cell (atOf HL (At.cons (At.cons H1.out))) 0
  have hT := congrArg (List.take 2) HL.out; simp only [List.take_succ_cons, List.take_zero] at hT; obtain ⟨L1, hL1⟩ : ∃ M, M = L.take 2 := ⟨_, rfl⟩; rw [← hL1] at hT; have HL0 := Lib.hid hT; have S1 := S.sub (List.take_sublist 2 L); rw [← hL1] at S1; have F0 := qFc HL0 S1; clear S1 hL1 hT; refine wp_region_tree (S := fun w' => St w0 w' L1) (qcs 0 6 (.act 6 (.act 7 (.calm 8 (.calm 9 (.calm 10 (.act 11 (.act 12 .fin .stop) .stop)))) .stop) .stop)) (by kernel_rfl) (by kernel_rfl) (by kernel_rfl) (by intro c a d v w h; cases d <;> exact h) ?_; dsimp only [qcs, Nat.reduceAdd]; replace S := S.drew
  repeat (first | refine qTb6X ?_ | refine qCaX ?_ | refine qAnX ?_ | refine qSkX ?_ | (refine tree_act rfl rfl ?_ tree_stop; intro K hK; (refine qsw HL S 3 ?_; clear F S HL; intro w L HL S F); (refine qKoX hK ?_; clear hK K)) | (refine tree_act rfl rfl ?_ tree_stop; intro K hK; go_wp2_with (first | (go_at_call 102; refine (CM _ (seen_in HU.out S (by rw [HL.out]; intro e he; simp [he])) (seen_in HV.out S (by rw [HL.out]; intro e he; simp [he]))).mono ?_; rintro e w ⟨u1, v1, o1, rfl, T0⟩; have hX := qcl HL S T0; clear F S HL T0; obtain ⟨L, HL, S, F⟩ := hX; obtain ⟨A', cap', rfl, hcap', hmax'⟩ := qSl HL S 1; obtain ⟨A', cap', rfl, hcap', hmax'⟩ := qSl HL S 2) | (go_at_call 75; refine (C_take L (p + 5) (q + 5) _ _ _ _ _ _ _ _ _ _ _ _ _ _ _ _ _ _ _ w0 _ S (atOf HL (At.cons (At.cons (At.cons (At.cons (At.cons H1.out)))))) (atOf HL (At.cons (At.cons (At.cons (At.cons (At.cons H2.out)))))) ⟨0, _, atOf HL rfl⟩ (by omega) (by omega) (by have := HF.out; omega)).mono ?_; rintro e w ⟨o2, rfl, T0⟩; obtain ⟨L, hM, T⟩ := st_name T0; clear T0; clear F S; replace HL := qNm HL hM; clear hM; have S := T; clear T; have F := qFc HL S)); (refine qKoX hK ?_; clear hK K)))
  refine tree_fin ?_
  go_wp2
  ((try simp only [Exit.inBlock, Exit.then]); refine ret1 rfl (resCell S HL 3 rfl rfl (by kernel_rfl)) rfl ?_)
  rw [HL.out] at S
  exact ⟨_, _, _, _, _, rfl, S.sub (.cons _ (.cons_cons _ (.cons_cons _ (.cons _ (.cons _ (.refl _))))))⟩
end
section
attribute [local irreducible] wpList Oper.wp Calls
theorem set_four {L : List Ent} {p q : Nat} (h : q ≠ p) (r1 r2 b1 b2 : Ent) : (((L.set q r1).set p b1).set q r2).set p b2 = (L.set q r2).set p b2 := by
  rw [List.set_comm _ _ h.symm, List.set_set, List.set_set]
theorem C_cutP (L0 : List Ent) (p q gs : Nat) (s0 : Int) (o : Value) (os : List Int) (r c : Int) (xs : List Int) (r' c' : Int) (ys : List Int) (u v : Value) (rc cc : Int) (us : List Int) (rc' cc' : Int) (vs : List Int) (a b : Value) (z1 z2 : Scd) (w0 w1 : World) (S0 : St w0 w1 L0)
    (hp : At L0 p (.box gs 85 [.int .i64 s0, o])) (hq : At L0 q (.row 3 1 o os.length (ints os))) (hpq : q ≠ p) (hn : os.length ≤ 800000) (hu : SeenIn w0 L0 q u xs) (hv : SeenIn w0 L0 q v ys) (ha : SeenIn w0 L0 q a us) (hb : SeenIn w0 L0 q b vs)
    (hz1 : prodS ⟨⟨r, c, xs⟩, ⟨r', c', ys⟩⟩ ⟨⟨rc, cc, us⟩, ⟨rc', cc', vs⟩⟩ s0 = z1) (hz2 : mapS 1 z1.m z1.last = z2) :
    Calls Tryz.prog 53 #[.pointer (some ⟨gs, 0, none⟩), .agg #[.int .i64 r, .int .i64 c, u, .int .i64 r', .int .i64 c', v], .agg #[.int .i64 rc, .int .i64 cc, a, .int .i64 rc', .int .i64 cc', b]] w1 (Steps L0 p q gs os ⟨z2.m, z1.os ++ z2.os, z2.last⟩ w0) := by
  have hfew : z1.os.length ≤ 50 := by rw [← hz1]; exact prodS_few _ _ _
  have CP := fun w h h' h2 h3 => C_impl_ProductShared r c xs r' c' ys u v rc cc us rc' cc' vs a b s0 z1 w h h' h2 h3 hz1
  have CK := fun L p q gs o w S hp hq hpq hn u v hu hv => C_look L p q gs 1 z1.last o (os ++ z1.os) z1.m.a.r z1.m.a.c z1.m.a.xs z1.m.b.r z1.m.b.c z1.m.b.xs u v z2 w0 w S hp hq hpq hn hu hv hz2
  unfold Steps at CK ⊢
  unfold MakesScl at CP
  dsimp only
  have hq' := hq
  obtain ⟨A, co, rfl, hc1, hc2⟩ := S0.sliceOf hq
  obtain ⟨L, HL, S⟩ := st_name S0
  clear S0
  replace HL := Lib.hid HL
  have F : True := trivial
  have H1 := Lib.hid hp
  have H2 := Lib.hid hq
  have HU := Lib.hid hu
  have HV := Lib.hid hv
  have HA := Lib.hid ha
  have HB := Lib.hid hb
  have HF := Lib.hid hfew
  have HPQ := Lib.hid hpq
  clear hp hq hq' hz1 hz2 hfew hu hv ha hb hpq
  go_enter Tryz.func53, Tryz.ntmps53
  go_upto_region 1 with (first | (refine qbd 4 HL S ?_; clear F S HL; intro gx w L HL S F) | (refine qbd 5 HL S ?_; clear F S HL; intro gy w L HL S F) | (refine qal HL S zSMx ?_; clear F S HL; intro g6 w L HL S F))
  (try simp only [Act.put, qP0, qP1, qP2])
  go_cut [7] (fun v w => ∃ (g : Nat) (o2 : Value) (Au At' : Option Addr) (cu ct : Nat), v = .pointer (some ⟨g, 0, none⟩) ∧ St w0 w (.box g 32 [.int .i64 z1.m.a.r, .int .i64 z1.m.a.c, .slice Au z1.m.a.xs.length cu, .int .i64 z1.m.b.r, .int .i64 z1.m.b.c, .slice At' z1.m.b.xs.length ct] :: .row 3 1 (.slice At' z1.m.b.xs.length ct) z1.m.b.xs.length (ints z1.m.b.xs) :: .row 3 1 (.slice Au z1.m.a.xs.length cu) z1.m.a.xs.length (ints z1.m.a.xs) :: .box g6 32 [.int .i64 0, .int .i64 0, .slice none 0 0, .int .i64 0, .int .i64 0, .slice none 0 0] :: ((L0.set q (.row 3 1 o2 (os.length + z1.os.length) (ints (os ++ z1.os)))).set p (.box gs 85 [.int .i64 z1.last, o2]))))
  case first =>
    have hpq := HPQ.out
    have hT := congrArg (List.take 3) HL.out; simp only [List.take_succ_cons, List.take_zero] at hT; obtain ⟨L1, hL1⟩ : ∃ M, M = L.take 3 := ⟨_, rfl⟩; rw [← hL1] at hT; have HL0 := Lib.hid hT; have S1 := S.sub (List.take_sublist 3 L); rw [← hL1] at S1; have F0 := qFc HL0 S1; clear S1 hL1 hT; refine wp_region_tree (S := fun w' => St w0 w' L1) (qcs 0 6 (.act 6 (.act 7 (.calm 8 (.calm 9 (.calm 10 (.act 11 (.act 12 (.act 13 .fin .stop) .stop) (.act 12 (.act 11 (.act 13 .fin .stop) .stop) .stop))))) (.act 12 (.act 7 (.calm 8 (.calm 9 (.calm 10 (.act 11 (.act 13 .fin .stop) .stop)))) .stop) .stop)) (.act 12 (.act 6 (.act 7 (.calm 8 (.calm 9 (.calm 10 (.act 11 (.act 13 .fin .stop) .stop)))) .stop) .stop) .stop))) (by kernel_rfl) (by kernel_rfl) (by kernel_rfl) (by intro c a d v w h; cases d <;> exact h) ?_; dsimp only [qcs, Nat.reduceAdd]; replace S := S.drew
    repeat' (first | refine qTb6X ?_ | refine qCaX ?_ | refine qAnX ?_ | refine qSkX ?_ | exact tree_stop | (refine tree_act rfl rfl ?_ ?_) | (intro K hK; (refine qaw HL S zSMx ?_; clear F S HL; intro g w L HL S F); (refine qKoX hK ?_; clear hK K)) | (intro K hK; (refine qsw HL S 0 ?_; clear F S HL; intro w L HL S F); (refine qKoX hK ?_; clear hK K)) | (intro K hK; (refine qsw HL S 3 ?_; clear F S HL; intro w L HL S F); (refine qKoX hK ?_; clear hK K)) | (intro K hK; (refine qsw HL S 4 ?_; clear F S HL; intro w L HL S F); (refine qKoX hK ?_; clear hK K)) | (intro K hK; (refine wp_load_int S _ _ rfl Tryz.underlying3 (p + 3) _ _ _ _ (atOf HL (At.cons (At.cons (At.cons H1.out)))) rfl _ rfl ?_); (refine qKoX hK ?_; clear hK K)) | (intro K hK; (refine wp_load_int S _ _ rfl Tryz.underlying3 (p + 4) _ _ _ _ (atOf HL (At.cons (At.cons (At.cons (At.cons H1.out))))) rfl _ rfl ?_); (refine qKoX hK ?_; clear hK K)) | (intro K hK; go_wp2_with (first | (have d0 : ∀ w' (S' : St w0 w' L), w'.cell? ⟨gs, 0, none⟩ = some (.int .i64 s0) := fun w' S' => S'.cell (atOf HL (At.cons (At.cons (At.cons (At.cons H1.out))))) 0; fail) | (go_at_call 100; refine (CP _ (seen_in HU.out S (by rw [HL.out]; intro e he; simp [he])) (seen_in HV.out S (by rw [HL.out]; intro e he; simp [he])) (seen_in HA.out S (by rw [HL.out]; intro e he; simp [he])) (seen_in HB.out S (by rw [HL.out]; intro e he; simp [he]))).mono ?_; rintro e w ⟨u1, v1, o1, rfl, T0⟩; have hX := qcl HL S T0; clear F S HL T0; obtain ⟨L, HL, S, F⟩ := hX; obtain ⟨A', cap', rfl, hcap', hmax'⟩ := qSl HL S 1; obtain ⟨A', cap', rfl, hcap', hmax'⟩ := qSl HL S 2) | (go_at_call 75; refine (C_take L (p + 6) (q + 6) _ _ _ _ _ _ _ _ _ _ _ _ _ _ _ _ _ _ _ w0 _ S (atOf HL (At.cons (At.cons (At.cons (At.cons (At.cons (At.cons H1.out))))))) (atOf HL (At.cons (At.cons (At.cons (At.cons (At.cons (At.cons H2.out))))))) (by first | exact ⟨0, _, atOf HL rfl⟩ | exact ⟨1, _, atOf HL rfl⟩) (by omega) (by omega) (by have := HF.out; omega)).mono ?_; rintro e w ⟨o2, rfl, T0⟩; obtain ⟨L, hM, T⟩ := st_name T0; clear T0; clear F S; replace HL := qNm HL hM; clear hM; have S := T; clear T; have F := qFc HL S) | (go_at_call 75; refine (C_take L (p + 7) (q + 7) _ _ _ _ _ _ _ _ _ _ _ _ _ _ _ _ _ _ _ w0 _ S (atOf HL (At.cons (At.cons (At.cons (At.cons (At.cons (At.cons (At.cons H1.out)))))))) (atOf HL (At.cons (At.cons (At.cons (At.cons (At.cons (At.cons (At.cons H2.out)))))))) (by first | exact ⟨0, _, atOf HL rfl⟩ | exact ⟨1, _, atOf HL rfl⟩) (by omega) (by omega) (by have := HF.out; omega)).mono ?_; rintro e w ⟨o2, rfl, T0⟩; obtain ⟨L, hM, T⟩ := st_name T0; clear T0; clear F S; replace HL := qNm HL hM; clear hM; have S := T; clear T; have F := qFc HL S)); (refine qKoX hK ?_; clear hK K)))
    all_goals
      refine tree_fin ?_
      go_wp2_with fail
      go_meet
      rw [HL.out] at S
      exact ⟨_, o2, _, _, _, _, rfl, S.sel (by exact qQ3)⟩
  case rest =>
  obtain ⟨g7, o2, Au, At', cu, ct, rfl, T0⟩ := hcut
  have hpq := HPQ.out
  obtain ⟨L2, hL2⟩ : ∃ X, ((L0.set q (.row 3 1 o2 (os.length + z1.os.length) (ints (os ++ z1.os)))).set p (.box gs 85 [.int .i64 z1.last, o2])) = X := ⟨_, rfl⟩
  have k1 : At L2 p (.box gs 85 [.int .i64 z1.last, o2]) := hL2 ▸ at_set (at_set_ne H1.out hpq)
  have k2 : At L2 q (.row 3 1 o2 (os ++ z1.os).length (ints (os ++ z1.os))) := by
    rw [List.length_append, ← hL2]
    exact at_set_ne (at_set H2.out) hpq.symm
  have K1 := Lib.hid k1
  have K2 := Lib.hid k2
  rw [hL2] at T0
  have HE := Lib.hid hL2
  have hn2 : (os ++ z1.os).length ≤ 900000 := by have := HF.out; rw [List.length_append]; omega
  have HN2 := Lib.hid hn2
  obtain ⟨L, hM, T⟩ := st_name T0
  clear T0 k1 k2 hL2 hn2 CP
  clear F S; replace HL := qNm HL hM; clear hM; have S := T; clear T; have F := qFc HL S
  go_wp2_with (first | refine qLb6 S ?_ | (go_at_call 55; refine (CK L (p + 4) (q + 4) _ _ _ S (atOf HL (At.cons (At.cons (At.cons (At.cons K1.out))))) (atOf HL (At.cons (At.cons (At.cons (At.cons K2.out))))) (by omega) HN2.out _ _ (.inr ⟨2, _, by omega, atOf HL rfl⟩) (.inr ⟨1, _, by omega, atOf HL rfl⟩)).mono ?_; rintro e w ⟨o3, Au2, At2, cu2, ct2, rfl, T0⟩; obtain ⟨L, hM, T⟩ := st_name T0; clear T0; clear F S; replace HL := qNm HL hM; clear hM; have S := T; clear T; have F := qFc HL S) | (refine qst HL S 5 ?_; clear F S HL; intro w L HL S F))
  ((try simp only [Exit.inBlock, Exit.then]); refine ret1 rfl (resCell S HL 5 rfl rfl (by kernel_rfl)) rfl ?_)
  rw [HL.out, ← HE.out, set_four hpq] at S
  have e : os.length + z1.os.length + z2.os.length = os.length + (z1.os ++ z2.os).length := by rw [List.length_append]; omega
  rw [e] at S
  exact ⟨o3, Au2, At2, cu2, ct2, rfl, S.sub (.cons_cons _ (.cons_cons _ (.cons _ (.cons _ (.cons _ (.cons _ (.refl _)))))))⟩
theorem C_cutS (L0 : List Ent) (p q gs : Nat) (s0 : Int) (o : Value) (os : List Int) (r c : Int) (xs : List Int) (r' c' : Int) (ys : List Int) (u v : Value) (rc cc : Int) (us : List Int) (rc' cc' : Int) (vs : List Int) (a b : Value) (z1 z2 : Scd) (w0 w1 : World) (S0 : St w0 w1 L0)
    (hp : At L0 p (.box gs 85 [.int .i64 s0, o])) (hq : At L0 q (.row 3 1 o os.length (ints os))) (hpq : q ≠ p) (hn : os.length ≤ 800000) (hu : SeenIn w0 L0 q u xs) (hv : SeenIn w0 L0 q v ys) (ha : SeenIn w0 L0 q a us) (hb : SeenIn w0 L0 q b vs)
    (hz1 : scaleS ⟨⟨r, c, xs⟩, ⟨r', c', ys⟩⟩ ⟨⟨rc, cc, us⟩, ⟨rc', cc', vs⟩⟩ s0 = z1) (hz2 : mapS 1 z1.m z1.last = z2) :
    Calls Tryz.prog 58 #[.pointer (some ⟨gs, 0, none⟩), .agg #[.int .i64 r, .int .i64 c, u, .int .i64 r', .int .i64 c', v], .agg #[.int .i64 rc, .int .i64 cc, a, .int .i64 rc', .int .i64 cc', b]] w1 (Steps L0 p q gs os ⟨z2.m, z1.os ++ z2.os, z2.last⟩ w0) := by
  have hfew : z1.os.length ≤ 50 := by rw [← hz1]; exact scaleS_few _ _ _
  have CP := fun w h h' h2 h3 => C_impl_ScaleShared r c xs r' c' ys u v rc cc us rc' cc' vs a b s0 z1 w h h' h2 h3 hz1
  have CK := fun L p q gs o w S hp hq hpq hn u v hu hv => C_look L p q gs 1 z1.last o (os ++ z1.os) z1.m.a.r z1.m.a.c z1.m.a.xs z1.m.b.r z1.m.b.c z1.m.b.xs u v z2 w0 w S hp hq hpq hn hu hv hz2
  unfold Steps at CK ⊢
  unfold MakesScl at CP
  dsimp only
  have hq' := hq
  obtain ⟨A, co, rfl, hc1, hc2⟩ := S0.sliceOf hq
  obtain ⟨L, HL, S⟩ := st_name S0
  clear S0
  replace HL := Lib.hid HL
  have F : True := trivial
  have H1 := Lib.hid hp
  have H2 := Lib.hid hq
  have HU := Lib.hid hu
  have HV := Lib.hid hv
  have HA := Lib.hid ha
  have HB := Lib.hid hb
  have HF := Lib.hid hfew
  have HPQ := Lib.hid hpq
  clear hp hq hq' hz1 hz2 hfew hu hv ha hb hpq
  go_enter Tryz.func58, Tryz.ntmps58
  go_upto_region 1 with (first | (refine qbd 4 HL S ?_; clear F S HL; intro gx w L HL S F) | (refine qbd 5 HL S ?_; clear F S HL; intro gy w L HL S F) | (refine qal HL S zSMx ?_; clear F S HL; intro g6 w L HL S F))
  (try simp only [Act.put, qP0, qP1, qP2])
  go_cut [7] (fun v w => ∃ (g : Nat) (o2 : Value) (Au At' : Option Addr) (cu ct : Nat), v = .pointer (some ⟨g, 0, none⟩) ∧ St w0 w (.box g 32 [.int .i64 z1.m.a.r, .int .i64 z1.m.a.c, .slice Au z1.m.a.xs.length cu, .int .i64 z1.m.b.r, .int .i64 z1.m.b.c, .slice At' z1.m.b.xs.length ct] :: .row 3 1 (.slice At' z1.m.b.xs.length ct) z1.m.b.xs.length (ints z1.m.b.xs) :: .row 3 1 (.slice Au z1.m.a.xs.length cu) z1.m.a.xs.length (ints z1.m.a.xs) :: .box g6 32 [.int .i64 0, .int .i64 0, .slice none 0 0, .int .i64 0, .int .i64 0, .slice none 0 0] :: ((L0.set q (.row 3 1 o2 (os.length + z1.os.length) (ints (os ++ z1.os)))).set p (.box gs 85 [.int .i64 z1.last, o2]))))
  case first =>
    have hpq := HPQ.out
    have hT := congrArg (List.take 3) HL.out; simp only [List.take_succ_cons, List.take_zero] at hT; obtain ⟨L1, hL1⟩ : ∃ M, M = L.take 3 := ⟨_, rfl⟩; rw [← hL1] at hT; have HL0 := Lib.hid hT; have S1 := S.sub (List.take_sublist 3 L); rw [← hL1] at S1; have F0 := qFc HL0 S1; clear S1 hL1 hT; refine wp_region_tree (S := fun w' => St w0 w' L1) (qcs 0 6 (.act 6 (.act 7 (.calm 8 (.calm 9 (.calm 10 (.act 11 (.act 12 (.act 13 .fin .stop) .stop) (.act 12 (.act 11 (.act 13 .fin .stop) .stop) .stop))))) (.act 12 (.act 7 (.calm 8 (.calm 9 (.calm 10 (.act 11 (.act 13 .fin .stop) .stop)))) .stop) .stop)) (.act 12 (.act 6 (.act 7 (.calm 8 (.calm 9 (.calm 10 (.act 11 (.act 13 .fin .stop) .stop)))) .stop) .stop) .stop))) (by kernel_rfl) (by kernel_rfl) (by kernel_rfl) (by intro c a d v w h; cases d <;> exact h) ?_; dsimp only [qcs, Nat.reduceAdd]; replace S := S.drew
    repeat' (first | refine qTb6X ?_ | refine qCaX ?_ | refine qAnX ?_ | refine qSkX ?_ | exact tree_stop | (refine tree_act rfl rfl ?_ ?_) | (intro K hK; (refine qaw HL S zSMx ?_; clear F S HL; intro g w L HL S F); (refine qKoX hK ?_; clear hK K)) | (intro K hK; (refine qsw HL S 0 ?_; clear F S HL; intro w L HL S F); (refine qKoX hK ?_; clear hK K)) | (intro K hK; (refine qsw HL S 3 ?_; clear F S HL; intro w L HL S F); (refine qKoX hK ?_; clear hK K)) | (intro K hK; (refine qsw HL S 4 ?_; clear F S HL; intro w L HL S F); (refine qKoX hK ?_; clear hK K)) | (intro K hK; (refine wp_load_int S _ _ rfl Tryz.underlying3 (p + 3) _ _ _ _ (atOf HL (At.cons (At.cons (At.cons H1.out)))) rfl _ rfl ?_); (refine qKoX hK ?_; clear hK K)) | (intro K hK; (refine wp_load_int S _ _ rfl Tryz.underlying3 (p + 4) _ _ _ _ (atOf HL (At.cons (At.cons (At.cons (At.cons H1.out))))) rfl _ rfl ?_); (refine qKoX hK ?_; clear hK K)) | (intro K hK; go_wp2_with (first | (have d0 : ∀ w' (S' : St w0 w' L), w'.cell? ⟨gs, 0, none⟩ = some (.int .i64 s0) := fun w' S' => S'.cell (atOf HL (At.cons (At.cons (At.cons (At.cons H1.out))))) 0; fail) | (go_at_call 106; refine (CP _ (seen_in HU.out S (by rw [HL.out]; intro e he; simp [he])) (seen_in HV.out S (by rw [HL.out]; intro e he; simp [he])) (seen_in HA.out S (by rw [HL.out]; intro e he; simp [he])) (seen_in HB.out S (by rw [HL.out]; intro e he; simp [he]))).mono ?_; rintro e w ⟨u1, v1, o1, rfl, T0⟩; have hX := qcl HL S T0; clear F S HL T0; obtain ⟨L, HL, S, F⟩ := hX; obtain ⟨A', cap', rfl, hcap', hmax'⟩ := qSl HL S 1; obtain ⟨A', cap', rfl, hcap', hmax'⟩ := qSl HL S 2) | (go_at_call 75; refine (C_take L (p + 6) (q + 6) _ _ _ _ _ _ _ _ _ _ _ _ _ _ _ _ _ _ _ w0 _ S (atOf HL (At.cons (At.cons (At.cons (At.cons (At.cons (At.cons H1.out))))))) (atOf HL (At.cons (At.cons (At.cons (At.cons (At.cons (At.cons H2.out))))))) (by first | exact ⟨0, _, atOf HL rfl⟩ | exact ⟨1, _, atOf HL rfl⟩) (by omega) (by omega) (by have := HF.out; omega)).mono ?_; rintro e w ⟨o2, rfl, T0⟩; obtain ⟨L, hM, T⟩ := st_name T0; clear T0; clear F S; replace HL := qNm HL hM; clear hM; have S := T; clear T; have F := qFc HL S) | (go_at_call 75; refine (C_take L (p + 7) (q + 7) _ _ _ _ _ _ _ _ _ _ _ _ _ _ _ _ _ _ _ w0 _ S (atOf HL (At.cons (At.cons (At.cons (At.cons (At.cons (At.cons (At.cons H1.out)))))))) (atOf HL (At.cons (At.cons (At.cons (At.cons (At.cons (At.cons (At.cons H2.out)))))))) (by first | exact ⟨0, _, atOf HL rfl⟩ | exact ⟨1, _, atOf HL rfl⟩) (by omega) (by omega) (by have := HF.out; omega)).mono ?_; rintro e w ⟨o2, rfl, T0⟩; obtain ⟨L, hM, T⟩ := st_name T0; clear T0; clear F S; replace HL := qNm HL hM; clear hM; have S := T; clear T; have F := qFc HL S)); (refine qKoX hK ?_; clear hK K)))
    all_goals
      refine tree_fin ?_
      go_wp2_with fail
      go_meet
      rw [HL.out] at S
      exact ⟨_, o2, _, _, _, _, rfl, S.sel (by exact qQ3)⟩
  case rest =>
  obtain ⟨g7, o2, Au, At', cu, ct, rfl, T0⟩ := hcut
  have hpq := HPQ.out
  obtain ⟨L2, hL2⟩ : ∃ X, ((L0.set q (.row 3 1 o2 (os.length + z1.os.length) (ints (os ++ z1.os)))).set p (.box gs 85 [.int .i64 z1.last, o2])) = X := ⟨_, rfl⟩
  have k1 : At L2 p (.box gs 85 [.int .i64 z1.last, o2]) := hL2 ▸ at_set (at_set_ne H1.out hpq)
  have k2 : At L2 q (.row 3 1 o2 (os ++ z1.os).length (ints (os ++ z1.os))) := by
    rw [List.length_append, ← hL2]
    exact at_set_ne (at_set H2.out) hpq.symm
  have K1 := Lib.hid k1
  have K2 := Lib.hid k2
  rw [hL2] at T0
  have HE := Lib.hid hL2
  have hn2 : (os ++ z1.os).length ≤ 900000 := by have := HF.out; rw [List.length_append]; omega
  have HN2 := Lib.hid hn2
  obtain ⟨L, hM, T⟩ := st_name T0
  clear T0 k1 k2 hL2 hn2 CP
  clear F S; replace HL := qNm HL hM; clear hM; have S := T; clear T; have F := qFc HL S
  go_wp2_with (first | refine qLb6 S ?_ | (go_at_call 55; refine (CK L (p + 4) (q + 4) _ _ _ S (atOf HL (At.cons (At.cons (At.cons (At.cons K1.out))))) (atOf HL (At.cons (At.cons (At.cons (At.cons K2.out))))) (by omega) HN2.out _ _ (.inr ⟨2, _, by omega, atOf HL rfl⟩) (.inr ⟨1, _, by omega, atOf HL rfl⟩)).mono ?_; rintro e w ⟨o3, Au2, At2, cu2, ct2, rfl, T0⟩; obtain ⟨L, hM, T⟩ := st_name T0; clear T0; clear F S; replace HL := qNm HL hM; clear hM; have S := T; clear T; have F := qFc HL S) | (refine qst HL S 5 ?_; clear F S HL; intro w L HL S F))
  ((try simp only [Exit.inBlock, Exit.then]); refine ret1 rfl (resCell S HL 5 rfl rfl (by kernel_rfl)) rfl ?_)
  rw [HL.out, ← HE.out, set_four hpq] at S
  have e : os.length + z1.os.length + z2.os.length = os.length + (z1.os ++ z2.os).length := by rw [List.length_append]; omega
  rw [e] at S
  exact ⟨o3, Au2, At2, cu2, ct2, rfl, S.sub (.cons_cons _ (.cons_cons _ (.cons _ (.cons _ (.cons _ (.cons _ (.refl _)))))))⟩
end
section
def mixS (a b c x : SMx) (s : Int) : Scd :=
  let q := cutS x a s
  let k := cutS x b q.last
  let v := cutS x c k.last
  let t := cutS q.m (turnSMx k.m) v.last
  let g := mapS 4 t.m t.last
  let n := mapS 5 (sumsS g.m) g.last
  let h := scaleS g.m n.m n.last
  let j := mapS 1 h.m h.last
  let o := cutS j.m v.m j.last
  ⟨o.m, q.os ++ k.os ++ v.os ++ t.os ++ g.os ++ n.os ++ h.os ++ j.os ++ o.os, o.last⟩
theorem mix_good {a b c x : SMx} {s : Int} (ha : a.ok = true) (hb : b.ok = true) (hc : c.ok = true) (hx : x.ok = true) (hs : seedOk s = true)
    (a1 : a.a.r = x.a.c) (a2 : a.a.c = x.a.c) (b1 : b.a.r = x.a.c) (b2 : b.a.c = x.a.c) (c1 : c.a.r = x.a.c) (c2 : c.a.c = x.a.c) :
    Good (mixS a b c x s) (mixRun (joinMx a) (joinMx b) (joinMx c) (joinMx x))
      (3 * (x.a.r * x.a.c + x.a.c * x.a.c + x.a.r * x.a.c) + (x.a.r * x.a.c + x.a.c * x.a.r + x.a.r * x.a.r) + (x.a.r * x.a.r + x.a.r * x.a.c + x.a.r * x.a.c) + 4 * (x.a.r * x.a.r) + x.a.r) := by
  have gq := cut_good hx ha a1.symm hs
  have gk := cut_good hx hb b1.symm gq.seed
  have gv := cut_good hx hc c1.symm gk.seed
  unfold mixS
  dsimp only
  generalize cutS x a s = q at gq gk gv ⊢
  generalize cutS x b q.last = k at gk gv ⊢
  generalize cutS x c k.last = v at gv ⊢
  obtain ⟨_, jx1, jx2, _⟩ := join_smx hx
  obtain ⟨_, ja1, ja2, _⟩ := join_smx ha
  obtain ⟨_, jb1, jb2, _⟩ := join_smx hb
  obtain ⟨_, jc1, jc2, _⟩ := join_smx hc
  have q1 : q.m.a.r = x.a.r := gq.sides.1.trans jx1
  have q2 : q.m.a.c = x.a.c := (gq.sides.2.trans ja2).trans a2
  have k1 : k.m.a.r = x.a.r := gk.sides.1.trans jx1
  have k2 : k.m.a.c = x.a.c := (gk.sides.2.trans jb2).trans b2
  have v1 : v.m.a.r = x.a.r := gv.sides.1.trans jx1
  have v2 : v.m.a.c = x.a.c := (gv.sides.2.trans jc2).trans c2
  obtain ⟨tk, tj, t1, t2⟩ := turn_good gk.ok
  have gt := cut_good gq.ok tk (by rw [q2, t1, k2]) gv.seed
  generalize cutS q.m (turnSMx k.m) v.last = t at gt ⊢
  have tr : t.m.a.r = x.a.r := by rw [gt.sides.1]; exact (join_smx gq.ok).2.1.trans q1
  have tc : t.m.a.c = x.a.r := by rw [gt.sides.2]; exact ((join_smx tk).2.2.1.trans t2).trans k1
  have gg := map_good (k := 4) ⟨by omega, by omega⟩ gt.ok gt.seed
  generalize mapS 4 t.m t.last = g at gg ⊢
  have gr : g.m.a.r = x.a.r := by rw [gg.sides.1]; exact (join_smx gt.ok).2.1.trans tr
  have gc : g.m.a.c = x.a.r := by rw [gg.sides.2]; exact (join_smx gt.ok).2.2.1.trans tc
  obtain ⟨uk, uj, u1, u2⟩ := sums_good gg.ok
  have gn := map_good (k := 5) ⟨by omega, by omega⟩ uk gg.seed
  generalize mapS 5 (sumsS g.m) g.last = n at gn ⊢
  have nr : n.m.a.r = x.a.r := by rw [gn.sides.1]; exact ((join_smx uk).2.1.trans u1).trans gr
  have nc : n.m.a.c = 1 := by rw [gn.sides.2]; exact (join_smx uk).2.2.1.trans u2
  have gh := scaleS_good gg.ok gn.ok gn.seed nc (by rw [nr, gr])
  generalize scaleS g.m n.m n.last = h at gh ⊢
  have hr : h.m.a.r = x.a.r := by rw [gh.sides.1]; exact (join_smx gg.ok).2.1.trans gr
  have hc' : h.m.a.c = x.a.r := by rw [gh.sides.2]; exact (join_smx gg.ok).2.2.1.trans gc
  have gj := map_good (k := 1) ⟨by omega, by omega⟩ gh.ok gh.seed
  generalize mapS 1 h.m h.last = j at gj ⊢
  have jr : j.m.a.r = x.a.r := by rw [gj.sides.1]; exact (join_smx gh.ok).2.1.trans hr
  have jc : j.m.a.c = x.a.r := by rw [gj.sides.2]; exact (join_smx gh.ok).2.2.1.trans hc'
  have go := cut_good gj.ok gv.ok (by rw [jc, v1]) gj.seed
  generalize cutS j.m v.m j.last = o at go ⊢
  refine ⟨go.ok, ?_, go.seed, ?_⟩
  · show joinMx o.m = _
    rw [go.join, gj.join, gh.join, gn.join, uj, gg.join, gt.join, tj, gq.join, gk.join, gv.join]
    rfl
  · simp only [List.length_append, Int.natCast_add]
    rw [gq.len, gk.len, gv.len, gt.len, gg.len, gn.len, gh.len, gj.len, go.len, a1, a2, b1, b2, c1, c2, q1, q2, t1, t2, k1, k2, tr, tc, gr, gc, u1, u2, hr, hc', jr, jc, v1, v2]
    rw [gr]
    generalize x.a.r * x.a.c = p1
    generalize x.a.c * x.a.r = p2
    generalize x.a.r * x.a.r = p3
    generalize x.a.c * x.a.c = p4
    omega
end
section
def mixFitS (x w : SMx) : Bool := w.ok && decide (w.a.r = w.a.c) && decide (w.a.c = x.a.c)
def mixOk (ws : List SMx) (x : SMx) (s : Int) : Bool := decide (ws.length = 3) && x.ok && ws.all (mixFitS x) && seedOk s
def mixR (ws : List SMx) (x : SMx) (s : Int) : Scd := if mixOk ws x s then (match ws with
  | [a, b, c] => mixS a b c x s
  | _ => ⟨SMx.zero, [], 0⟩) else ⟨SMx.zero, [], 0⟩
theorem mixR_not {ws : List SMx} {x : SMx} {s : Int} (h : mixOk ws x s = false) : mixR ws x s = ⟨SMx.zero, [], 0⟩ := by
  unfold mixR
  rw [h]
  rfl
theorem mixOk_parts {ws : List SMx} {x : SMx} {s : Int} (h : mixOk ws x s = true) :
    ∃ a b c, ws = [a, b, c] ∧ x.ok = true ∧ seedOk s = true ∧ a.ok = true ∧ b.ok = true ∧ c.ok = true ∧ a.a.r = x.a.c ∧ a.a.c = x.a.c ∧ b.a.r = x.a.c ∧ b.a.c = x.a.c ∧ c.a.r = x.a.c ∧ c.a.c = x.a.c ∧ mixR ws x s = mixS a b c x s := by
  have h' := h
  simp only [mixOk, Bool.and_eq_true, decide_eq_true_eq] at h'
  obtain ⟨⟨⟨hl, hx⟩, hall⟩, hs⟩ := h'
  match ws, hl with
  | [a, b, c], _ =>
    simp only [List.all_cons, List.all_nil, Bool.and_true, Bool.and_eq_true, mixFitS, decide_eq_true_eq] at hall
    obtain ⟨⟨⟨a1, a2⟩, a3⟩, ⟨⟨b1, b2⟩, b3⟩, ⟨c1, c2⟩, c3⟩ := hall
    refine ⟨a, b, c, rfl, hx, hs, a1, b1, c1, by omega, a3, by omega, b3, by omega, c3, ?_⟩
    unfold mixR
    rw [if_pos h]
end
end Go.Proofs.YtjgfjfjboimgdaaGreat
