/- DrM -/
import Derived.Test.YtjgfjfjboimgdaaGreatY35
namespace Go.Proofs.YtjgfjfjboimgdaaGreat
set_option linter.unusedSimpArgs false
set_option linter.unusedVariables false
set_option linter.unusedSectionVars false
open Go Go.RowKit
set_option maxHeartbeats 8000000
set_option maxRecDepth 20000
section
theorem C_odd0 (R : List Ent) (g : Nat) (v : Value) (k : Int) (w0 w1 : World) (S0 : St w0 w1 (.box g 143 [v, .int .i64 k] :: R)) :
    Calls Tryz.prog 65 #[.pointer (some ⟨g, 0, none⟩), .int .i64 0] w1 (fun e w' => e = .returned (.bool false) ∧ St w0 w' (.box g 143 [v, .int .i64 k] :: R)) := by
  obtain ⟨L, HL, S⟩ := st_name S0
  clear S0
  replace HL := Lib.hid HL
  have F := factsAll HL S
  simp only [factsOf, cellsFrom, and_true, true_and, Nat.reduceAdd] at F
  go_enter Tryz.func65, Tryz.ntmps65
  go_wp2_with (first | (refine qbx HL S ?_; clear F S HL; intro g w L HL S F)  | (refine qst HL S 0 ?_; clear F S HL; intro w L HL S F) | (refine qst HL S 1 ?_; clear F S HL; intro w L HL S F) | (refine qst HL S 2 ?_; clear F S HL; intro w L HL S F) | (refine qst HL S 3 ?_; clear F S HL; intro w L HL S F)  )
  go_ret
  exact ⟨rfl, (by rw [HL.out] at S; exact S.sub (by first | exact .refl _ | exact .cons_cons _ (.refl _) | (refine .cons_cons _ ?_; repeat (first | exact .refl _ | refine .cons _ ?_)) | (repeat (first | exact .refl _ | exact .cons_cons _ (.refl _) | refine .cons _ ?_))))⟩
theorem C_l20Seed (R : List Ent) (g : Nat) (v : Value) (k m : Int) (w0 w1 : World) (S0 : St w0 w1 (.box g 143 [v, .int .i64 k] :: R)) (hB : Bytes w0 v) (hk : 0 ≤ k ∧ k ≤ 900000000) :
    Calls Tryz.prog 66 #[.pointer (some ⟨g, 0, none⟩), .int .i64 m] w1 (DrawsInt 4 R g v k w0) := by
  have HB := Lib.hid hB
  obtain ⟨k1, k2⟩ := hk
  clear hB
  obtain ⟨L, HL, S⟩ := st_name S0
  clear S0
  replace HL := Lib.hid HL
  have F := factsAll HL S
  simp only [factsOf, cellsFrom, and_true, true_and, Nat.reduceAdd] at F
  go_enter Tryz.func66, Tryz.ntmps66
  go_wp2_with (first | ((go_at_call 63; refine (C_pick _ _ _ _ _ w0 _ (S.front qAt) HB.out ⟨by omega, by omega⟩).mono ?_; rintro e w ⟨y, rfl, hy0, T0⟩; obtain ⟨L, hM, T⟩ := st_name T0; clear T0; clear F S; (try rw [HL.out] at hM); clear HL; (try simp only [List.eraseIdx_cons_zero, List.eraseIdx_cons_succ] at hM); have HL := Lib.hid hM; clear hM; have S := T; clear T; have F := qFc HL S); have hy := hy0 (by omega); clear hy0) | (go_at_call 65; refine (C_odd _ _ _ _ _ w0 _ (S.front qAt) HB.out ⟨by omega, by omega⟩).mono ?_; rintro e w ⟨y, k', rfl, hk1, hk2, T0⟩; obtain ⟨L, hM, T⟩ := st_name T0; clear T0; clear F S; (try rw [HL.out] at hM); clear HL; (try simp only [List.eraseIdx_cons_zero, List.eraseIdx_cons_succ] at hM); have HL := Lib.hid hM; clear hM; have S := T; clear T; have F := qFc HL S) | (refine wpList_lit rfl S _ _ _ rfl 3 Tryz.underlying23 infoInt (by simp [Act.eval]) (by simp [Act.eval, Value.oneCell']) rfl rfl rfl ?_; clear F S; intro g w L hM S; replace HL := qNm HL hM; clear hM; have F := qFc HL S) | (first | (refine wpList_load_lit rfl S _ _ rfl Tryz.underlying3 1 _ _ _ _ (atOf HL rfl) rfl (by simp) (by simp; omega) ?_; intro q hq; have hq := id hq; simp only [List.mem_cons, Value.int.injEq, true_and, List.not_mem_nil, or_false] at hq) | (refine wpList_load_lit rfl S _ _ rfl Tryz.underlying3 2 _ _ _ _ (atOf HL rfl) rfl (by simp) (by simp; omega) ?_; intro q hq; have hq := id hq; simp only [List.mem_cons, Value.int.injEq, true_and, List.not_mem_nil, or_false] at hq) | (refine wpList_load_lit rfl S _ _ rfl Tryz.underlying3 3 _ _ _ _ (atOf HL rfl) rfl (by simp) (by simp; omega) ?_; intro q hq; have hq := id hq; simp only [List.mem_cons, Value.int.injEq, true_and, List.not_mem_nil, or_false] at hq)))
  all_goals (go_ret; refine ⟨_, _, rfl, ?_, ?_, (by rw [HL.out] at S; exact S.sub (by first | exact .refl _ | exact .cons_cons _ (.refl _) | (refine .cons_cons _ ?_; repeat (first | exact .refl _ | refine .cons _ ?_)) | (repeat (first | exact .refl _ | exact .cons_cons _ (.refl _) | refine .cons _ ?_))))⟩ <;> omega)
section
variable {P : Program} {w0 w : World} {a : Act} {L : List Ent} {o : Oper} {K : Act → World → Prop} {Q : Exit → Act → World → Prop}
theorem wp_lit2i (S : St w0 w L) (t : TypeId) (x y : Operand) (ho : o.op = .buildSlice t 2 #[(0, x), (1, y)])
    (e : TypeId) (ht : P.underlying t = some (.slice e)) {z : Value} {bytes : Nat} (hi : (P.info? e).map (fun i => (i.zero, i.size, i.bytes)) = some (some z, 1, bytes))
    (c d : Int) (hx : a.eval x = .int .i64 c) (hy : a.eval y = .int .i64 d)
    (h : ∀ g w' M, M = .box g e [.int .i64 c, .int .i64 d] :: L → St w0 w' M → K (a.put o.dst (.slice (some ⟨g, 0, none⟩) 2 2)) w') : o.wp P a w K Q := by
  obtain ⟨i, hi0, hz0, hz1, hz2⟩ := info_parts hi
  refine Go.wp_buildSlice t e 2 _ ho #[.int .i64 c, .int .i64 d] i z ht hi0 hz0 (by rw [hz1]; omega) (by rw [hz1]; omega) ?_ (h _ _ _ rfl (S.new e _))
  rw [hz1, Array.toList_map]
  show Instr.fill _ _ [(0, a.eval x), (1, a.eval y)] = _
  rw [hx, hy]
  show Instr.fill _ _ (([Value.int .i64 c, .int .i64 d].zipIdx 0).map fun x => (x.2, x.1)) = _
  exact Great.fill_flat _ _ (fun v hv => by
    rcases List.mem_cons.1 hv with rfl | hv
    · rfl
    · rw [List.mem_singleton.1 hv]; rfl) (by simp)
end
set_option maxHeartbeats 2000000
def DrawsRing (R : List Ent) (g : Nat) (v : Value) (k : Int) (w0 : World) (e : Ending) (w' : World) : Prop :=
  ∃ (y k' : Int), e = .returned (.int .i64 y) ∧ rv y = true ∧ k ≤ k' ∧ k' ≤ k + 6 ∧ St w0 w' (.box g 143 [v, .int .i64 k'] :: R)
theorem C_l20Ring0 (R : List Ent) (g : Nat) (v : Value) (k : Int) (w0 w1 : World) (S0 : St w0 w1 (.box g 143 [v, .int .i64 k] :: R)) (hB : Bytes w0 v) (hk : 0 ≤ k ∧ k ≤ 900000000) :
    Calls Tryz.prog 156 #[.pointer (some ⟨g, 0, none⟩), .int .i64 0] w1 (DrawsRing R g v k w0) := by
  have HB := Lib.hid hB
  obtain ⟨k1, k2⟩ := hk
  clear hB
  obtain ⟨L, HL, S⟩ := st_name S0
  clear S0
  replace HL := Lib.hid HL
  have F := factsAll HL S
  simp only [factsOf, cellsFrom, and_true, true_and, Nat.reduceAdd] at F
  have hro := ro_bd
  go_enter Tryz.func156, Tryz.ntmps156
  go_upto_region 2 with (first | ((go_at_call 63; refine (C_pick _ _ _ _ _ w0 _ (S.front qAt) HB.out ⟨by omega, by omega⟩).mono ?_; rintro e w ⟨y, rfl, hy0, T0⟩; obtain ⟨L, hM, T⟩ := st_name T0; clear T0; clear F S; (try rw [HL.out] at hM); clear HL; (try simp only [List.eraseIdx_cons_zero, List.eraseIdx_cons_succ] at hM); have HL := Lib.hid hM; clear hM; have S := T; clear T; have F := qFc HL S); have hy := hy0 (by omega); clear hy0) | (refine wpList_lit rfl S _ _ _ rfl 3 Tryz.underlying23 infoInt (by simp [Act.eval]) (by simp [Act.eval, Value.oneCell']) rfl rfl rfl ?_; clear F S; intro g w L hM S; replace HL := qNm HL hM; clear hM; have F := qFc HL S) | (first | (refine wpList_load_lit rfl S _ _ rfl Tryz.underlying3 1 _ _ _ _ (atOf HL rfl) rfl (by simp) (by simp; omega) ?_; intro q hq; have hq := id hq; simp only [List.mem_cons, Value.int.injEq, true_and, List.not_mem_nil, or_false] at hq) | (refine wpList_load_lit rfl S _ _ rfl Tryz.underlying3 2 _ _ _ _ (atOf HL rfl) rfl (by simp) (by simp; omega) ?_; intro q hq; have hq := id hq; simp only [List.mem_cons, Value.int.injEq, true_and, List.not_mem_nil, or_false] at hq) | (refine wpList_load_lit rfl S _ _ rfl Tryz.underlying3 3 _ _ _ _ (atOf HL rfl) rfl (by simp) (by simp; omega) ?_; intro q hq; have hq := id hq; simp only [List.mem_cons, Value.int.injEq, true_and, List.not_mem_nil, or_false] at hq)) | (go_at_call 96; refine qPu (C_spec_l1Ring _ _) ?_))
  clear hro
  have hq2 : rv q = true := by
    rcases hq with rfl | rfl | rfl | rfl | rfl | rfl | rfl | rfl <;> first | exact rv_ro _ | (refine rv_iff.2 ⟨?_, ?_⟩ <;> omega)
  clear hq
  go_wp2_with (first | (go_at_call 65; refine (C_odd0 _ _ _ _ w0 _ (S.front qAt)).mono ?_; rintro e w ⟨rfl, T0⟩; obtain ⟨L, hM, T⟩ := st_name T0; clear T0; clear F S; (try rw [HL.out] at hM); clear HL; (try simp only [List.eraseIdx_cons_zero, List.eraseIdx_cons_succ] at hM); have HL := Lib.hid hM; clear hM; have S := T; clear T; have F := qFc HL S))
  go_ret
  refine ⟨_, _, rfl, hq2, ?_, ?_, (by rw [HL.out] at S; exact S.sub (by first | exact .refl _ | exact .cons_cons _ (.refl _) | (refine .cons_cons _ ?_; repeat (first | exact .refl _ | refine .cons _ ?_)) | (repeat (first | exact .refl _ | exact .cons_cons _ (.refl _) | refine .cons _ ?_))))⟩ <;> omega
theorem quo_nat {y : Int} (h : 0 ≤ y) (h1 : y < 1000) : ∃ j : Nat, Int.tdiv y 3 = j ∧ 3 * (j : Int) ≤ y ∧ IntKind.i64.wrap (j : Int) = j := by
  refine ⟨(y / 3).toNat, ?_, by omega, ?_⟩
  · rw [Int.tdiv_eq_ediv_of_nonneg h]; omega
  · rw [IntKind.wrap_i64]; omega
section
variable {P : Program} {w0 w : World} {a : Act} {L : List Ent} {o : Oper} {K : Act → World → Prop} {Q : Exit → Act → World → Prop}
theorem wp_load_lit (S : St w0 w L) (ty : TypeId) (ad : Operand) (ho : o.op = .load ty ad) (hty : P.underlying ty = some (.int .i64)) (p g : Nat) (t : TypeId) (cs : List Value) (i : Nat) (hp : At L p (.box g t cs))
    (had : a.eval ad = .pointer (some ⟨g, i, none⟩)) (hall : ∀ v ∈ cs, ∃ q : Int, v = .int .i64 q) (hi : i < cs.length)
    (h : ∀ q : Int, Value.int .i64 q ∈ cs → K (a.put o.dst (.int .i64 q)) w) : o.wp P a w K Q := by
  have hc := S.cell hp i
  rw [List.getElem?_eq_getElem hi] at hc
  obtain ⟨q, hq⟩ := hall _ (List.getElem_mem hi)
  have hq' : Value.int .i64 q ∈ cs := by rw [← hq]; exact List.getElem_mem hi
  rw [hq] at hc
  unfold Oper.wp
  simp only [execOp, ho, had]
  simp [Instr.loadAt, Instr.sureAddr, loadVar, isAgg, Sem.run_bind, run_underlying hty, hc]
  exact h q hq'
end
def DrawsMx (R : List Ent) (g : Nat) (v : Value) (k m : Int) (A B : Nat) (w0 : World) (e : Ending) (w' : World) : Prop :=
  ∃ (u : Value) (r c : Int) (xs : List Int) (k' : Int), e = .returned (.agg #[.int .i64 r, .int .i64 c, u]) ∧ xs.length ≤ 26 ∧ k ≤ k' ∧ k' ≤ k + 400 ∧ (m = 0 → r = A ∧ c = B ∧ xs.length = A * B ∧ xs.all rv = true) ∧ St w0 w' (.row 3 1 u xs.length (ints xs) :: .box g 143 [v, .int .i64 k'] :: R)
theorem C_l20Matrix (R : List Ent) (gr : Nat) (v : Value) (k m : Int) (A B N : Nat) (w0 w1 : World) (S0 : St w0 w1 (.box gr 143 [v, .int .i64 k] :: R)) (hB : Bytes w0 v) (hk : 0 ≤ k ∧ k ≤ 600000000)
    (r1 : 1 ≤ A) (r2 : A ≤ 5) (c1 : 1 ≤ B) (c2 : B ≤ 5) (hN : A * B = N) (hN2 : N ≤ 25) (hm0 : 0 ≤ m) :
    Calls Tryz.prog 108 #[.pointer (some ⟨gr, 0, none⟩), .int .i64 A, .int .i64 B, .int .i64 m] w1 (DrawsMx R gr v k m A B w0) := by
  have HB := Lib.hid hB
  obtain ⟨k1, k2⟩ := hk
  have w1' : (A : Int) * (B : Int) = (N : Int) := by rw [← hN, Int.natCast_mul]
  have HNN := Lib.hid hN
  clear hB hN
  obtain ⟨L, HL, S⟩ := st_name S0
  clear S0
  replace HL := Lib.hid HL
  have F := factsAll HL S
  simp only [factsOf, cellsFrom, and_true, true_and, Nat.reduceAdd] at F
  go_enter Tryz.func108, Tryz.ntmps108
  go_upto_region 1 with (first | (refine qal HL S zMx ?_; clear F S HL; intro g8 w L HL S F))
  go_upto_region 3 with (first | (refine qal HL S zMx ?_; clear F S HL; intro g9 w L HL S F) | (refine qst HL S 0 ?_; clear F S HL; intro w L HL S F))
  rw [HL.out] at S
  replace S := (S.nilRow 3 1).front (p := 3) rfl
  simp only [List.eraseIdx_cons_succ, List.eraseIdx_cons_zero] at S
  clear HL F
  obtain ⟨L, hM, T⟩ := st_name S; clear S; have S := T; clear T; have HL := Lib.hid hM; clear hM; have F := qFc HL S
  go_loopw [10] (fun i wr => ∃ (q : Nat) (E1 : Option Addr) (m1 : Nat) (xs : List Int) (k' : Int) (L : List Ent), q ≤ N ∧ i = .int .i64 q ∧ xs.length = q ∧ Hid (xs.all rv = true) ∧ k ≤ k' ∧ k' ≤ k + 12 * q ∧ Hid (L = .box gr 143 [v, .int .i64 k'] :: .row 3 1 (.slice E1 q m1) q (ints xs) :: .box g9 30 [.int .i64 A, .int .i64 B, .slice E1 q m1] :: .box g8 30 [.int .i64 0, .int .i64 0, .slice none 0 0] :: R) ∧ St w0 wr L) (fun i _ => N - (intOf i).toNat)
  case atStart => exact ⟨0, none, 0, [], k, L, Nat.zero_le _, rfl, rfl, Lib.hid rfl, by omega, by omega, HL, S⟩
  case round =>
    clear F HL S
    obtain ⟨q, E1, m1, xs, k', L, hq, rfl, hlen, HA, hk3, hk4, HL, S⟩ := hrel
    have F := factsAll HL S
    simp only [factsOf, cellsFrom, and_true, true_and, Nat.reduceAdd] at F
    by_cases hlt : q < N
    · have HLN := Lib.hid hlen
      clear hlen
      go_upto_region 5 with fail
      have hT := congrArg (List.drop 2) HL.out; simp only [List.drop_succ_cons, List.drop_zero] at hT; obtain ⟨L1, hL1⟩ : ∃ M, M = L.drop 2 := ⟨_, rfl⟩; rw [← hL1] at hT; have HL0 := Lib.hid hT; have S1 := S.sub (List.drop_sublist 2 L); rw [← hL1] at S1; have F0 := qFc HL0 S1; clear S1 hL1 hT; refine wp_region_tree (S := fun w' => St w0 w' L1) (qcs 0 3 (.calm 6 (.calm 9 (.act 3 (.calm 4 (.act 5 (.act 7 (.act 8 (.act 10 (.calm 11 (.calm 12 (.act 13 (.act 14 (.act 15 (.calm 16 (.act 17 .fin .stop)) .stop) .stop) .stop))) .stop) (.act 10 (.calm 11 (.act 8 (.calm 12 (.act 13 (.act 14 (.act 15 (.calm 16 (.act 17 .fin .stop)) .stop) .stop) .stop)) .stop)) .stop)) .stop) .stop)) .stop)))) (by kernel_rfl) (by kernel_rfl) (by kernel_rfl) (by intro c a d v w h; cases d <;> exact h) ?_; dsimp only [qcs, Nat.reduceAdd]; replace S := S.drew
      repeat' (first | refine qCa ?_ | refine qAn ?_ | refine qSk ?_ | exact tree_stop | (refine tree_act rfl rfl ?_ ?_) | (intro K hK; (refine wp_lit2i S _ _ _ rfl 3 Tryz.underlying23 infoInt _ _ rfl rfl ?_; clear F S; intro g w L hM S; replace HL := qNm HL hM; clear hM; have F := qFc HL S); (refine qKo hK ?_; clear hK K)) | (intro K hK; (first | (refine wp_load_lit S _ _ rfl Tryz.underlying3 0 _ _ _ _ (atOf HL rfl) rfl (by simp) (by simp; omega) ?_; intro q' hq'; have hq' := id hq'; simp only [List.mem_cons, Value.int.injEq, true_and, List.not_mem_nil, or_false] at hq') | (refine wp_load_lit S _ _ rfl Tryz.underlying3 1 _ _ _ _ (atOf HL rfl) rfl (by simp) (by simp; omega) ?_; intro q' hq'; have hq' := id hq'; simp only [List.mem_cons, Value.int.injEq, true_and, List.not_mem_nil, or_false] at hq') | (refine wp_load_lit S _ _ rfl Tryz.underlying3 2 _ _ _ _ (atOf HL rfl) rfl (by simp) (by simp; omega) ?_; intro q' hq'; have hq' := id hq'; simp only [List.mem_cons, Value.int.injEq, true_and, List.not_mem_nil, or_false] at hq') | (refine wp_load_lit S _ _ rfl Tryz.underlying3 3 _ _ _ _ (atOf HL rfl) rfl (by simp) (by simp; omega) ?_; intro q' hq'; have hq' := id hq'; simp only [List.mem_cons, Value.int.injEq, true_and, List.not_mem_nil, or_false] at hq')); (refine qKo hK ?_; clear hK K)) | (intro K hK; (refine wp_lit1 S _ _ rfl 3 Tryz.underlying23 infoInt _ rfl ?_; clear F S; intro g w L hM S; replace HL := qNm HL hM; clear hM; have F := qFc HL S); (refine qKo hK ?_; clear hK K)) | (intro K hK; (refine wp_append_box S _ _ _ rfl 3 _ 1 8 Tryz.underlying23 infoInt rfl (by omega) _ _ _ _ rfl qAt (by omega) _ _ _ _ _ _ rfl qAt rfl rfl rfl rfl ?_; clear F S; intro u w L hM S; replace HL := qNm HL hM; clear hM; have F := qFc HL S; first | obtain ⟨A', cap', rfl, hcap', hmax'⟩ := qSl HL S 1 | obtain ⟨A', cap', rfl, hcap', hmax'⟩ := qSl HL S 2 | obtain ⟨A', cap', rfl, hcap', hmax'⟩ := qSl HL S 3); (refine qKo hK ?_; clear hK K)) | (intro K hK; (refine qsw HL S 3 ?_; clear F S HL; intro w L HL S F); (refine qKo hK ?_; clear hK K)) | (intro K hK; (refine qsw HL S 4 ?_; clear F S HL; intro w L HL S F); (refine qKo hK ?_; clear hK K)) | (intro K hK; (refine qsw HL S 5 ?_; clear F S HL; intro w L HL S F); (refine qKo hK ?_; clear hK K)) | (intro K hK; go_wp2_with (first | ((go_at_call 63; refine (C_pick _ _ _ _ _ w0 _ (S.front qAt) HB.out ⟨by omega, by omega⟩).mono ?_; rintro e w ⟨y, rfl, hy0, T0⟩; obtain ⟨L, hM, T⟩ := st_name T0; clear T0; clear F S; (try rw [HL.out] at hM); clear HL; (try simp only [List.eraseIdx_cons_zero, List.eraseIdx_cons_succ] at hM); have HL := Lib.hid hM; clear hM; have S := T; clear T; have F := qFc HL S); have hy := hy0 (by omega); clear hy0; obtain ⟨j, hj, hjl, hjw⟩ := quo_nat hy.1 (by omega); (try (have hj2 : (j : Int) < 2 := by omega))) | (go_at_call 156; refine (C_l20Ring0 _ _ _ _ w0 _ (S.front qAt) HB.out ⟨by omega, by omega⟩).mono ?_; rintro e w ⟨y, k', rfl, hyr, hk1, hk2, T0⟩; obtain ⟨L, hM, T⟩ := st_name T0; clear T0; clear F S; (try rw [HL.out] at hM); clear HL; (try simp only [List.eraseIdx_cons_zero, List.eraseIdx_cons_succ] at hM); have HL := Lib.hid hM; clear hM; have S := T; clear T; have F := qFc HL S) | (go_at_call 96; refine qPu (C_spec_l1Ring _ _) ?_)); (refine qKo hK ?_; clear hK K)))
      all_goals
        refine tree_fin ?_
        clear HL0 F0
        have hr : rv q' = true := by
          rcases hq' with h | h
          · rw [h]; exact rv_ro _
          · rw [h]; exact hyr
        have HR' := Lib.hid hr
        clear hr hq' hyr
        go_wp2
        go_roundw
        case rel =>
          first
            | (have T := S.front (atOf HL (p := 2) rfl); rw [HL.out] at T; simp only [List.eraseIdx_cons_succ, List.eraseIdx_cons_zero] at T; replace T := T.sub (.cons_cons _ (.cons _ (.cons _ (.refl _)))); rw [show [Value.int .i64 q'] = ints [q'] from rfl, ← ints_append] at T; exact ⟨q + 1, _, _, xs ++ [q'], _, _, by omega, by go_num, by simp [HLN.out], Lib.hid (by simp [List.all_append, HA.out, HR'.out]), by omega, by omega, Lib.hid rfl, T⟩)
            | (have T := S.front (atOf HL (p := 1) rfl); rw [HL.out] at T; simp only [List.eraseIdx_cons_succ, List.eraseIdx_cons_zero] at T; replace T := T.sub (.cons_cons _ (.cons _ (.cons _ (.refl _)))); rw [show [Value.int .i64 q'] = ints [q'] from rfl, ← ints_append] at T; exact ⟨q + 1, _, _, xs ++ [q'], _, _, by omega, by go_num, by simp [HLN.out], Lib.hid (by simp [List.all_append, HA.out, HR'.out]), by omega, by omega, Lib.hid rfl, T⟩)
        case measure => simp [intOf]; omega
    · obtain rfl : q = N := by omega
      have HLN := Lib.hid hlen
      clear hlen
      have hN1 : 1 ≤ q := by
        rcases Nat.eq_zero_or_pos q with h | h
        · subst h
          have : 0 < A * B := Nat.mul_pos r1 c1
          have : ((A * B : Nat) : Int) = ((0 : Nat) : Int) := by rw [Int.natCast_mul]; exact w1'
          omega
        · exact h
      rcases S.rowShape (atOf HL (p := 1) rfl) with ⟨_, h0⟩ | ⟨gq, cq, he, _, hcq⟩
      · omega
      simp only [Value.slice.injEq, true_and] at he
      obtain ⟨rfl, rfl⟩ := he
      unfold maxLen at hcq
      have hN0 : 0 < q := hN1
      by_cases hm : 0 < m
      · go_wp2_with (first | (go_at_call 65; refine (C_odd _ _ _ _ _ w0 _ (S.front qAt) HB.out ⟨by omega, by omega⟩).mono ?_; rintro e w ⟨y, k', rfl, hk1, hk2, T0⟩; obtain ⟨L, hM, T⟩ := st_name T0; clear T0; clear F S; (try rw [HL.out] at hM); clear HL; (try simp only [List.eraseIdx_cons_zero, List.eraseIdx_cons_succ] at hM); have HL := Lib.hid hM; clear hM; have S := T; clear T; have F := qFc HL S) | ((go_at_call 63; refine (C_pick _ _ _ _ _ w0 _ (S.front qAt) HB.out ⟨by omega, by omega⟩).mono ?_; rintro e w ⟨y, rfl, hy0, T0⟩; obtain ⟨L, hM, T⟩ := st_name T0; clear T0; clear F S; (try rw [HL.out] at hM); clear HL; (try simp only [List.eraseIdx_cons_zero, List.eraseIdx_cons_succ] at hM); have HL := Lib.hid hM; clear hM; have S := T; clear T; have F := qFc HL S); have hy := hy0 (by omega); clear hy0) | (refine wpList_lit rfl S _ _ _ rfl 3 Tryz.underlying23 infoInt (by simp [Act.eval]) (by simp [Act.eval, Value.oneCell']) rfl rfl rfl ?_; clear F S; intro g w L hM S; replace HL := qNm HL hM; clear hM; have F := qFc HL S) | (first | (refine wpList_load_lit rfl S _ _ rfl Tryz.underlying3 1 _ _ _ _ (atOf HL rfl) rfl (by simp) (by simp; omega) ?_; intro q hq; clear hq) | (refine wpList_load_lit rfl S _ _ rfl Tryz.underlying3 2 _ _ _ _ (atOf HL rfl) rfl (by simp) (by simp; omega) ?_; intro q hq; clear hq) | (refine wpList_load_lit rfl S _ _ rfl Tryz.underlying3 3 _ _ _ _ (atOf HL rfl) rfl (by simp) (by simp; omega) ?_; intro q hq; clear hq)) | (refine qst HL S 2 ?_; clear F S HL; intro w L HL S F) | (refine qst HL S 3 ?_; clear F S HL; intro w L HL S F) | (refine qst HL S 4 ?_; clear F S HL; intro w L HL S F) | ((refine wpList_append_box rfl S _ _ _ rfl 3 _ 1 8 Tryz.underlying23 infoInt rfl (by omega) _ _ _ _ rfl qAt (by omega) _ _ _ _ _ _ rfl qAt rfl rfl rfl rfl ?_; clear F S; intro u w L hM S; replace HL := qNm HL hM; clear hM; have F := qFc HL S); first | obtain ⟨A', cap', rfl, hcap', hmax'⟩ := qSl HL S 1 | obtain ⟨A', cap', rfl, hcap', hmax'⟩ := qSl HL S 2 | obtain ⟨A', cap', rfl, hcap', hmax'⟩ := qSl HL S 3))
        · ((try simp only [Exit.inBlock, Exit.then]); refine ret1 rfl (resCell S HL 4 rfl rfl (by kernel_rfl)) rfl ?_)
          (have T := S.front (atOf HL (p := 2) rfl); rw [HL.out] at T; simp only [List.eraseIdx_cons_succ, List.eraseIdx_cons_zero] at T)
          exact ⟨_, _, _, xs, k' + 1 + 1, rfl, by rw [HLN.out]; omega, by omega, by omega, fun h => absurd h (by omega), by rw [HLN.out]; exact T.sub (by repeat (first | exact .refl _ | exact List.nil_sublist _ | apply List.Sublist.cons_cons | apply List.Sublist.cons))⟩
        · ((try simp only [Exit.inBlock, Exit.then]); refine ret1 rfl (resCell S HL 3 rfl rfl (by kernel_rfl)) rfl ?_)
          (have T := S.front (atOf HL (p := 1) rfl); rw [HL.out] at T; simp only [List.eraseIdx_cons_succ, List.eraseIdx_cons_zero] at T)
          exact ⟨_, _, _, xs, k' + 1, rfl, by rw [HLN.out]; omega, by omega, by omega, fun h => absurd h (by omega), by rw [HLN.out]; exact T.sub (by repeat (first | exact .refl _ | exact List.nil_sublist _ | apply List.Sublist.cons_cons | apply List.Sublist.cons))⟩
        · ((try simp only [Exit.inBlock, Exit.then]); refine ret1 rfl (resCell S HL 4 rfl rfl (by kernel_rfl)) rfl ?_)
          (have T := S.front (atOf HL (p := 2) rfl); rw [HL.out] at T; simp only [List.eraseIdx_cons_succ, List.eraseIdx_cons_zero] at T)
          rw [show [Value.int .i64 1] = ints [1] from rfl, ← ints_append] at T
          refine ⟨_, _, _, xs ++ [1], k' + 1, rfl, by rw [List.length_append, HLN.out]; simp; omega, by omega, by omega, fun h => absurd h (by omega), ?_⟩
          rw [List.length_append, HLN.out]
          exact T.sub (by repeat (first | exact .refl _ | exact List.nil_sublist _ | apply List.Sublist.cons_cons | apply List.Sublist.cons))
        · have hT := congrArg (List.drop 1) HL.out; simp only [List.drop_succ_cons, List.drop_zero] at hT; obtain ⟨L1, hL1⟩ : ∃ M, M = L.drop 1 := ⟨_, rfl⟩; rw [← hL1] at hT; have HL0 := Lib.hid hT; have S1 := S.sub (List.drop_sublist 1 L); rw [← hL1] at S1; have F0 := qFc HL0 S1; clear S1 hL1 hT; refine wp_region_tree (S := fun w' => St w0 w' L1) (.calm 0 (.calm 1 (.calm 3 (.act 2 (.act 4 (.calm 5 (.act 6 (.calm 7 (.act 8 .fin .stop)) .stop)) .stop) (.act 4 (.act 2 (.calm 5 (.act 6 (.calm 7 (.act 8 .fin .stop)) .stop)) .stop) .stop))))) (by kernel_rfl) (by kernel_rfl) (by kernel_rfl) (by intro c a d v w h; cases d <;> exact h) ?_; replace S := S.drew
          repeat' (first | refine qCa ?_ | refine qAn ?_ | refine qSk ?_ | exact tree_stop | (refine tree_act rfl rfl ?_ ?_) | (intro K hK; (refine wp_lit2i S _ _ _ rfl 3 Tryz.underlying23 infoInt _ _ rfl rfl ?_; clear F S; intro g w L hM S; replace HL := qNm HL hM; clear hM; have F := qFc HL S); (refine qKo hK ?_; clear hK K)) | (intro K hK; (first | (refine wp_load_lit S _ _ rfl Tryz.underlying3 0 _ _ _ _ (atOf HL rfl) rfl (by simp) (by simp; omega) ?_; intro q' hq'; have hq' := id hq'; simp only [List.mem_cons, Value.int.injEq, true_and, List.not_mem_nil, or_false] at hq') | (refine wp_load_lit S _ _ rfl Tryz.underlying3 1 _ _ _ _ (atOf HL rfl) rfl (by simp) (by simp; omega) ?_; intro q' hq'; have hq' := id hq'; simp only [List.mem_cons, Value.int.injEq, true_and, List.not_mem_nil, or_false] at hq') | (refine wp_load_lit S _ _ rfl Tryz.underlying3 2 _ _ _ _ (atOf HL rfl) rfl (by simp) (by simp; omega) ?_; intro q' hq'; have hq' := id hq'; simp only [List.mem_cons, Value.int.injEq, true_and, List.not_mem_nil, or_false] at hq') | (refine wp_load_lit S _ _ rfl Tryz.underlying3 3 _ _ _ _ (atOf HL rfl) rfl (by simp) (by simp; omega) ?_; intro q' hq'; have hq' := id hq'; simp only [List.mem_cons, Value.int.injEq, true_and, List.not_mem_nil, or_false] at hq')); (refine qKo hK ?_; clear hK K)) | (intro K hK; (refine wp_store_row S _ _ _ rfl 2 _ _ _ _ _ _ _ (atOf HL rfl) rfl (.int .i64 q') rfl (by kernel_rfl) rfl (by omega) ?_; clear F S; intro w L hM S; replace HL := qNm HL hM; clear hM; have F := qFc HL S); (refine qKo hK ?_; clear hK K)) | (intro K hK; go_wp2_with (first | ((go_at_call 63; refine (C_pick _ _ _ _ _ w0 _ (S.front qAt) HB.out ⟨by omega, by omega⟩).mono ?_; rintro e w ⟨y, rfl, hy0, T0⟩; obtain ⟨L, hM, T⟩ := st_name T0; clear T0; clear F S; (try rw [HL.out] at hM); clear HL; (try simp only [List.eraseIdx_cons_zero, List.eraseIdx_cons_succ] at hM); have HL := Lib.hid hM; clear hM; have S := T; clear T; have F := qFc HL S); have hy := hy0 (by omega); clear hy0; obtain ⟨j, hj, hjl, hjw⟩ := quo_nat hy.1 (by omega); (try (have hj2 : (j : Int) < 2 := by omega)))); (refine qKo hK ?_; clear hK K)))
          all_goals
            refine tree_fin ?_
            clear HL0 F0
            go_wp2_with (first | (refine qst HL S 3 ?_; clear F S HL; intro w L HL S F) | (refine qst HL S 4 ?_; clear F S HL; intro w L HL S F))
            ((try simp only [Exit.inBlock, Exit.then]); refine ret1 rfl (resCell S HL 4 rfl rfl (by kernel_rfl)) rfl ?_)
            (have T := S.front (atOf HL (p := 2) rfl); rw [HL.out] at T; simp only [List.eraseIdx_cons_succ, List.eraseIdx_cons_zero] at T)
            rw [← ints_set] at T
            exact ⟨_, _, _, xs.set 0 q', k' + 1 + 1, rfl, by rw [List.length_set, HLN.out]; omega, by omega, by omega, fun h => absurd h (by omega), by rw [List.length_set, HLN.out]; exact T.sub (by repeat (first | exact .refl _ | exact List.nil_sublist _ | apply List.Sublist.cons_cons | apply List.Sublist.cons))⟩
        · ((try simp only [Exit.inBlock, Exit.then]); refine ret1 rfl (resCell S HL 3 rfl rfl (by kernel_rfl)) rfl ?_)
          (have T := S.front (atOf HL (p := 1) rfl); rw [HL.out] at T; simp only [List.eraseIdx_cons_succ, List.eraseIdx_cons_zero] at T)
          exact ⟨_, _, _, xs, k', rfl, by rw [HLN.out]; omega, by omega, by omega, fun h => absurd h (by omega), by rw [HLN.out]; exact T.sub (by repeat (first | exact .refl _ | exact List.nil_sublist _ | apply List.Sublist.cons_cons | apply List.Sublist.cons))⟩
      · obtain rfl : m = 0 := by omega
        go_wp2_with (first | (go_at_call 65; refine (C_odd0 _ _ _ _ w0 _ (S.front qAt)).mono ?_; rintro e w ⟨rfl, T0⟩; obtain ⟨L, hM, T⟩ := st_name T0; clear T0; clear F S; (try rw [HL.out] at hM); clear HL; (try simp only [List.eraseIdx_cons_zero, List.eraseIdx_cons_succ] at hM); have HL := Lib.hid hM; clear hM; have S := T; clear T; have F := qFc HL S) | (refine qst HL S 3 ?_; clear F S HL; intro w L HL S F))
        ((try simp only [Exit.inBlock, Exit.then]); refine ret1 rfl (resCell S HL 3 rfl rfl (by kernel_rfl)) rfl ?_)
        (have T := S.front (atOf HL (p := 1) rfl); rw [HL.out] at T; simp only [List.eraseIdx_cons_succ, List.eraseIdx_cons_zero] at T)
        exact ⟨_, _, _, xs, k', rfl, by rw [HLN.out]; omega, by omega, by omega, fun _ => ⟨rfl, rfl, HLN.out.trans HNN.out.symm, HA.out⟩, by rw [HLN.out]; exact T.sub (by repeat (first | exact .refl _ | exact List.nil_sublist _ | apply List.Sublist.cons_cons | apply List.Sublist.cons))⟩
theorem C_l20MatrixG (R : List Ent) (gr : Nat) (v : Value) (k m : Int) (A B : Nat) (w0 w1 : World) (hAB : (1 ≤ A ∧ A ≤ 5) ∧ 1 ≤ B ∧ B ≤ 5) (hm : 0 ≤ m) (S0 : St w0 w1 (.box gr 143 [v, .int .i64 k] :: R)) (hB : Bytes w0 v) (hk : 0 ≤ k ∧ k ≤ 600000000) :
    Calls Tryz.prog 108 #[.pointer (some ⟨gr, 0, none⟩), .int .i64 A, .int .i64 B, .int .i64 m] w1 (DrawsMx R gr v k m A B w0) :=
  C_l20Matrix R gr v k m A B (A * B) w0 w1 S0 hB hk hAB.1.1 hAB.1.2 hAB.2.1 hAB.2.2 rfl (by have : A * B ≤ 5 * 5 := Nat.mul_le_mul hAB.1.2 hAB.2.2; omega) hm
end
end Go.Proofs.YtjgfjfjboimgdaaGreat
