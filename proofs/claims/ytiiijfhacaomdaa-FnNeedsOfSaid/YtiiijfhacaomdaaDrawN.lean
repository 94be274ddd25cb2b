/-
  Contracts of what draws networks.
-/
import Derived.Test.YtiiijfhacaomdaaDrawO
namespace Go.Proofs.Ytiiijfhacaomdaa
set_option linter.unusedSimpArgs false
set_option linter.unusedVariables false
set_option linter.unusedSectionVars false
open Go Go.RowKit
set_option maxHeartbeats 8000000
set_option maxRecDepth 20000
section
variable {P : Program} {w0 w : World} {a : Act} {L : List Ent} {o : Oper} {ops : Array Oper} {rest : List Oper} {Q : Exit → Act → World → Prop}
theorem wpList_litL (hgd : o.guard = none) (S : St w0 w L) (t : TypeId) (x : Operand) (ho : o.op = .buildSlice t 1 #[(0, x)])
    (e : TypeId) (ht : P.underlying t = some (.slice e)) {z : Value} {bytes : Nat} (hi : (P.info? e).map (fun i => (i.zero, i.size, i.bytes)) = some (some z, 2, bytes))
    (c0 c1 : Value) (hx : a.eval x = .agg #[c0, c1])
    (h : ∀ g w' M, M = .box g e [c0, c1] :: L → St w0 w' M → wpList P ops Q rest (a.put o.dst (.slice (some ⟨g, 0, none⟩) 1 1)) w') : wpList P ops Q (o :: rest) a w :=
  wpList_litS hgd S t 1 _ ho e ht hi #[c0, c1] (fun C hC => by
    show Instr.fill _ C [(0, a.eval x)] = _
    rw [hx]; exact fill2 C hC _ _) (by omega) (by omega) h
end
/-- A layer is drawn: the reader, its row of matrices, the rows of the values, the rest. -/
def DrawsLyQ (R : List Ent) (g : Nat) (v : Value) (k : Int) (q : Int) (m : Int) (w0 : World) (e : Ending) (w' : World) : Prop :=
  ∃ (u : Value) (kd : Int) (ps : MsO) (k' : Int), e = .returned (.agg #[.int .i64 kd, u]) ∧ k ≤ k' ∧ k' ≤ k + 3000 ∧ (m = 0 → kd = q ∧ (q = 1 → ∃ (A : Nat) (x : Value), (cellsM ps)[0]? = some (.int .i64 A) ∧ 0 < ps.length ∧ 1 ≤ A ∧ A ≤ 3)) ∧ St w0 w' (.box g 108 [v, .int .i64 k'] :: .row 80 3 u ps.length (cellsM ps) :: (rowsM ps ++ R))
theorem drawsLyQ {R : List Ent} {g : Nat} {v : Value} {k q m : Int} {w0 : World} {e : Ending} {w' : World} (h : DrawsLy R g v k q m w0 e w') : DrawsLyQ R g v k q m w0 e w' := by
  obtain ⟨u, kd, ps, k', rfl, h1, h2, h3, T⟩ := h
  refine ⟨u, kd, ps, k', rfl, h1, h2, fun hm => ⟨(h3 hm).1, fun hq => ?_⟩, T⟩
  obtain ⟨p, r, A, rfl, ha, hb, hc⟩ := (h3 hm).2 hq
  refine ⟨A, p.1, ?_, by simp, hb, hc⟩
  rw [← ha]
  rfl
theorem C_l20LayerQ (R : List Ent) (gr : Nat) (v : Value) (k q : Int) (A B : Nat) (w0 w1 : World) (hq : q = 1 ∨ q = 1 ∨ q = 2 ∨ q = 3) (hAB : (1 ≤ A ∧ A ≤ 5) ∧ 1 ≤ B ∧ B ≤ 5) (S0 : St w0 w1 (.box gr 108 [v, .int .i64 k] :: R)) (hB : Bytes w0 v) (hk : 0 ≤ k ∧ k ≤ 400000000) :
    Calls Try.prog 69 #[.pointer (some ⟨gr, 0, none⟩), .int .i64 q, .int .i64 A, .int .i64 B, .int .i64 0] w1 (DrawsLyQ R gr v k q 0 w0) := by
  have : q = 1 ∨ q = 2 ∨ q = 3 := by omega
  rcases this with rfl | rfl | rfl
  · exact (C_l20LayerOne R gr v k A B w0 w1 hAB S0 hB hk).mono fun e w h => drawsLyQ h
  · exact (C_l20LayerTwo R gr v k A B w0 w1 hAB S0 hB hk).mono fun e w h => drawsLyQ h
  · exact (C_l20LayerThree R gr v k A B w0 w1 hAB S0 hB hk).mono fun e w h => drawsLyQ h
theorem C_l20LayerX (R : List Ent) (gr : Nat) (v : Value) (k : Int) (A B : Nat) (w0 w1 : World) (hAB : (1 ≤ A ∧ A ≤ 5) ∧ 1 ≤ B ∧ B ≤ 5) (S0 : St w0 w1 (.box gr 108 [v, .int .i64 k] :: R)) (hB : Bytes w0 v) (hk : 0 ≤ k ∧ k ≤ 400000000) :
    Calls Try.prog 69 #[.pointer (some ⟨gr, 0, none⟩), .int .i64 1, .int .i64 A, .int .i64 B, .int .i64 1] w1 (DrawsLyQ R gr v k 1 1 w0) :=
  (C_l20LayerOdd R gr v k A B w0 w1 hAB S0 hB hk).mono fun e w h => drawsLyQ h
/-- A net is drawn: the reader, the row of its layers, the rows of the layers, the rest. -/
def DrawsLs (R : List Ent) (g : Nat) (v : Value) (k : Int) (w0 : World) (e : Ending) (w' : World) : Prop :=
  ∃ (u : Value) (qs : LsO) (k' : Int), e = .returned u ∧ k ≤ k' ∧ k' ≤ k + 20000 ∧ qs.length ≤ 5 ∧ St w0 w' (.box g 108 [v, .int .i64 k'] :: .row 42 2 u qs.length (cellsL qs) :: (rowsL qs ++ R))
theorem ls_add (qs : LsO) (u : Value) (kd : Int) (ps : MsO) : rowsL (qs ++ [(u, kd, ps)]) = rowsL qs ++ (.row 80 3 u ps.length (cellsM ps) :: rowsM ps) := by
  rw [rowsL_add]
  show rowsL qs ++ (entsM u ps ++ []) = _
  rw [List.append_nil]
  rfl
theorem ls_perm (rd ms ot : Ent) (A B R : List Ent) : (rd :: ms :: ot :: (A ++ (B ++ R))).Perm (rd :: ot :: (B ++ (ms :: A) ++ R)) := by
  refine .cons _ ?_
  refine (List.Perm.swap _ _ _).trans (.cons _ ?_)
  rw [← List.cons_append, ← List.append_assoc]
  exact List.Perm.append_right _ List.perm_append_comm
theorem st_mid {w0 w : World} {rd ms li ot : Ent} {A X : List Ent} (T : St w0 w (rd :: ms :: (A ++ (li :: ot :: X)))) : St w0 w (rd :: ms :: ot :: (A ++ X)) :=
  (T.sub (.cons_cons _ (.cons_cons _ (List.Sublist.append_left (.cons _ (.refl _)) A)))).perm (.cons _ (.cons _ List.perm_middle))
theorem st_add {w0 w : World} {rd : Ent} {R : List Ent} {u u2 : Value} {qs : LsO} {kd : Int} {ps : MsO} {n : Nat} {cs : List Value} (hn : qs.length = n) (hcs : cs = cellsL qs ++ [.int .i64 kd, u2])
    (T : St w0 w (rd :: .row 80 3 u2 ps.length (cellsM ps) :: .row 42 2 u (n + 1) cs :: (rowsM ps ++ (rowsL qs ++ R)))) :
    St w0 w (rd :: .row 42 2 u (qs ++ [(u2, kd, ps)]).length (cellsL (qs ++ [(u2, kd, ps)])) :: (rowsL (qs ++ [(u2, kd, ps)]) ++ R)) := by
  subst hcs hn
  have T2 := T.perm (ls_perm _ _ _ _ _ _)
  rw [ls_add, cellsL_add, List.length_append]
  exact T2
def five : LsO := [(.slice none 0 0, 0, []), (.slice none 0 0, 0, []), (.slice none 0 0, 0, []), (.slice none 0 0, 0, []), (.slice none 0 0, 0, [])]
theorem made5 : (madeCells #[Value.int .i64 0, Value.slice none 0 0] 10).toList = cellsL five := by
  simp [madeCells, cellsL, cellL, five]
  rfl
theorem C_l20Net (R : List Ent) (gr : Nat) (v : Value) (k n : Int) (A0 B : Nat) (w0 w1 : World) (hAB : (1 ≤ A0 ∧ A0 ≤ 3) ∧ 1 ≤ B ∧ B ≤ 3) (hn : 0 ≤ n) (S0 : St w0 w1 (.box gr 108 [v, .int .i64 k] :: R)) (hB : Bytes w0 v) (hk : 0 ≤ k ∧ k ≤ 300000000) :
    Calls Try.prog 38 #[.pointer (some ⟨gr, 0, none⟩), .int .i64 A0, .int .i64 B, .int .i64 n] w1 (DrawsLs R gr v k w0) := by
  have HB := Lib.hid hB
  obtain ⟨k1, k2⟩ := hk
  obtain ⟨⟨A1, A2⟩, B1, B2⟩ := hAB
  clear hB
  obtain ⟨L, HL, S⟩ := st_name S0
  clear S0
  replace HL := Lib.hid HL
  have F := factsAll HL S
  simp only [factsOf, cellsFrom, and_true, true_and, Nat.reduceAdd] at F
  go_enter Try.func38, Try.ntmps38
  go_upto_region 2 with (first | (refine wpList_empty rfl S _ rfl 42 Try.underlying23 infoLy ?_; intro g w L hM T; clear F S; (try rw [HL.out] at hM); clear HL; (try simp [Act.put, Act.eval, Value.cells, splice] at hM); have HL := Lib.hid hM; clear hM; have S := T; clear T; have F := factsAll HL S; (try simp only [factsOf, cellsFrom, and_true, true_and, Nat.reduceAdd] at F)))
  go_wp2_with (first | ((go_at_call 37; refine (C_pick _ _ _ _ _ w0 _ (S.front (by first | exact atOf HL (p := 0) rfl | exact atOf HL (p := 1) rfl | exact atOf HL (p := 2) rfl | exact atOf HL (p := 3) rfl | exact atOf HL (p := 4) rfl | exact atOf HL (p := 5) rfl | exact atOf HL (p := 6) rfl | exact atOf HL (p := 7) rfl)) HB.out ⟨by omega, by omega⟩).mono ?_; rintro e w ⟨y, rfl, hy0, T0⟩; obtain ⟨L, hM, T⟩ := st_name T0; clear T0; clear F S; (try rw [HL.out] at hM); clear HL; (try simp only [List.eraseIdx_cons_zero, List.eraseIdx_cons_succ] at hM); have HL := Lib.hid hM; clear hM; have S := T; clear T; have F := factsAll HL S; (try simp only [factsOf, cellsFrom, and_true, true_and, Nat.reduceAdd] at F)); have hy := hy0 (by omega); clear hy0))
  obtain ⟨j0, rfl⟩ : ∃ j : Nat, y = (j : Int) := ⟨y.toNat, by omega⟩
  have hj0 : j0 ≤ 3 := by omega
  clear hy
  rw [HL.out] at S
  have S1 := S.sub (.cons_cons _ (.cons_cons _ (.refl _)))
  clear S HL F
  have S := S1
  clear S1
  obtain ⟨L, hM, T⟩ := st_name S; clear S; have S := T; clear T; have HL := Lib.hid hM; clear hM; have F := factsAll HL S; (try simp only [factsOf, cellsFrom, and_true, true_and, Nat.reduceAdd] at F)
  go_loopw [10, 9, 1] (fun i o r wr => ∃ (j A : Nat) (u : Value) (qs : LsO) (k' : Int) (L : List Ent), i = .int .i64 j ∧ j + qs.length ≤ 3 ∧ o = u ∧ r = .int .i64 A ∧ 1 ≤ A ∧ A ≤ 3 ∧ k ≤ k' ∧ k' ≤ k + 1 + 4000 * qs.length ∧ Hid (L = .box gr 108 [v, .int .i64 k'] :: .row 42 2 u qs.length (cellsL qs) :: (rowsL qs ++ R)) ∧ St w0 wr L) (fun i _ _ _ => (intOf i).toNat)
  case atStart => exact ⟨j0, A0, _, [], k + 1, L, rfl, by simpa using hj0, rfl, rfl, A1, A2, by omega, by simp, HL, S⟩
  case round =>
    clear F HL S
    obtain ⟨j, A, u, qs, k', L, rfl, hq3, rfl, rfl, hA1, hA2, hk3, hk4, HL, S⟩ := hrel
    have F := factsAll HL S
    simp only [factsOf, cellsFrom, and_true, true_and, Nat.reduceAdd] at F
    obtain ⟨ln, hln⟩ : ∃ ln, qs.length = ln := ⟨_, rfl⟩
    rw [hln] at hq3 hk4 HL
    have HLN := Lib.hid hln
    clear hln
    by_cases hj : 0 < j
    · go_upto_region 6 with (first | (refine wpList_lit rfl S _ _ _ rfl 3 Try.underlying66 infoInt (by simp [Act.eval]) (by simp [Act.eval, Value.oneCell']) rfl rfl rfl ?_; intro g w L hM T; clear F S; (try rw [HL.out] at hM); clear HL; (try simp [Act.put, Act.eval, Value.cells, splice] at hM); have HL := Lib.hid hM; clear hM; have S := T; clear T; have F := factsAll HL S; (try simp only [factsOf, cellsFrom, and_true, true_and, Nat.reduceAdd] at F)) | ((go_at_call 37; refine (C_pick _ _ _ _ _ w0 _ (S.front (by first | exact atOf HL (p := 0) rfl | exact atOf HL (p := 1) rfl | exact atOf HL (p := 2) rfl | exact atOf HL (p := 3) rfl | exact atOf HL (p := 4) rfl | exact atOf HL (p := 5) rfl | exact atOf HL (p := 6) rfl | exact atOf HL (p := 7) rfl)) HB.out ⟨by omega, by omega⟩).mono ?_; rintro e w ⟨y, rfl, hy0, T0⟩; obtain ⟨L, hM, T⟩ := st_name T0; clear T0; clear F S; (try rw [HL.out] at hM); clear HL; (try simp only [List.eraseIdx_cons_zero, List.eraseIdx_cons_succ] at hM); have HL := Lib.hid hM; clear hM; have S := T; clear T; have F := factsAll HL S; (try simp only [factsOf, cellsFrom, and_true, true_and, Nat.reduceAdd] at F)); have hy := hy0 (by omega); clear hy0) | (first | (refine wpList_load_lit rfl S _ _ rfl Try.underlying3 1 _ _ _ _ (atOf HL rfl) rfl (by simp) (by simp; omega) ?_; intro q hq; have hq := id hq; simp only [List.mem_cons, Value.int.injEq, true_and, List.not_mem_nil, or_false] at hq) | (refine wpList_load_lit rfl S _ _ rfl Try.underlying3 2 _ _ _ _ (atOf HL rfl) rfl (by simp) (by simp; omega) ?_; intro q hq; have hq := id hq; simp only [List.mem_cons, Value.int.injEq, true_and, List.not_mem_nil, or_false] at hq) | (refine wpList_load_lit rfl S _ _ rfl Try.underlying3 3 _ _ _ _ (atOf HL rfl) rfl (by simp) (by simp; omega) ?_; intro q hq; have hq := id hq; simp only [List.mem_cons, Value.int.injEq, true_and, List.not_mem_nil, or_false] at hq)))
      go_at_call 69
      refine (C_l20LayerQ _ _ _ _ q A B w0 _ hq ⟨⟨by omega, by omega⟩, by omega, by omega⟩ (S.front (atOf HL (p := 0) rfl)) HB.out ⟨by omega, by omega⟩).mono ?_
      rintro e w ⟨u2, kd, ps, k2, rfl, hk5, hk6, hm, T0⟩
      obtain ⟨rfl, hone⟩ := hm rfl
      rw [HL.out] at T0
      simp only [List.eraseIdx_cons_zero] at T0
      have T1 := st_mid T0
      clear T0 S F HL hm
      have S := T1
      clear T1
      obtain ⟨L, hM, T⟩ := st_name S; clear S; have S := T; clear T; have HL := Lib.hid hM; clear hM; have F := factsAll HL S; (try simp only [factsOf, cellsFrom, and_true, true_and, Nat.reduceAdd] at F)
      obtain ⟨A', cap', rfl, hcap', hmax'⟩ := S.sliceOf (atOf HL (p := 1) rfl)
      go_upto_region 6 with (first | (refine wpList_alloc rfl S 42 _ rfl zLy ?_; intro gl w L hM T; clear F S; (try rw [HL.out] at hM); clear HL; (try simp [Act.put, Act.eval, Value.cells, splice] at hM); have HL := Lib.hid hM; clear hM; have S := T; clear T; have F := factsAll HL S; (try simp only [factsOf, cellsFrom, and_true, true_and, Nat.reduceAdd] at F)) | (refine wpList_store_box rfl S _ _ _ rfl 0 _ _ _ _ (atOf HL rfl) rfl _ rfl (by kernel_rfl) rfl rfl ?_; intro w L hM T; clear F S; (try rw [HL.out] at hM); clear HL; (try simp [Act.put, Act.eval, Value.cells, splice] at hM); have HL := Lib.hid hM; clear hM; have S := T; clear T; have F := factsAll HL S; (try simp only [factsOf, cellsFrom, and_true, true_and, Nat.reduceAdd] at F)))
      by_cases h1 : kd = 1
      · subst h1
        obtain ⟨A', x, hc, hp, ha1, ha2⟩ := hone rfl
        obtain ⟨gm, cm, em, hcm, hmm⟩ := S.rowAt (p := 2) (atOf HL rfl) hp
        simp only [Value.slice.injEq, true_and] at em
        obtain ⟨rfl, rfl⟩ := em
        have c0 := (S.rowCell (p := 2) (atOf HL rfl) 0 (by omega)).trans hc
        clear hc hone hq
        unfold maxLen at hmm
        go_wp2_with (first | (refine wpList_litL rfl S _ _ rfl 42 Try.underlying23 infoLy _ _ rfl ?_; intro g w L hM T; clear F S; (try rw [HL.out] at hM); clear HL; (try simp [Act.put, Act.eval, Value.cells, splice] at hM); have HL := Lib.hid hM; clear hM; have S := T; clear T; have F := factsAll HL S; (try simp only [factsOf, cellsFrom, and_true, true_and, Nat.reduceAdd] at F)) | (refine wpList_append_box rfl S _ _ _ rfl 42 _ 2 32 Try.underlying23 infoLy rfl (by omega) _ _ _ _ rfl (by first | exact atOf HL (p := 0) rfl | exact atOf HL (p := 1) rfl | exact atOf HL (p := 2) rfl | exact atOf HL (p := 3) rfl | exact atOf HL (p := 4) rfl | exact atOf HL (p := 5) rfl | exact atOf HL (p := 6) rfl | exact atOf HL (p := 7) rfl) (by omega) _ _ _ _ _ _ rfl (by first | exact atOf HL (p := 0) rfl | exact atOf HL (p := 1) rfl | exact atOf HL (p := 2) rfl | exact atOf HL (p := 3) rfl | exact atOf HL (p := 4) rfl | exact atOf HL (p := 5) rfl | exact atOf HL (p := 6) rfl | exact atOf HL (p := 7) rfl) rfl rfl rfl rfl ?_; intro u w L hM T; clear F S; (try rw [HL.out] at hM); clear HL; (try simp [Act.put, Act.eval, Value.cells, splice] at hM); have HL := Lib.hid hM; clear hM; have S := T; clear T; have F := factsAll HL S; (try simp only [factsOf, cellsFrom, and_true, true_and, Nat.reduceAdd] at F)))
        go_roundw
        case rel =>
          rw [HL.out] at S
          exact ⟨j - 1, A', _, _, k2, _, by congr 1; omega, by rw [List.length_append, HLN.out]; simp; omega, rfl, rfl, by omega, by omega, by omega, by rw [List.length_append, HLN.out]; simp; omega, Lib.hid rfl, st_add HLN.out rfl (S.sub (.cons _ (.cons _ (.refl _))))⟩
        case measure => simp [intOf]; omega
      · clear hone
        have HO : Hid (kd = 2 ∨ kd = 3) := Lib.hid (by omega)
        clear hq
        go_wp2_with (first | (refine wpList_litL rfl S _ _ rfl 42 Try.underlying23 infoLy _ _ rfl ?_; intro g w L hM T; clear F S; (try rw [HL.out] at hM); clear HL; (try simp [Act.put, Act.eval, Value.cells, splice] at hM); have HL := Lib.hid hM; clear hM; have S := T; clear T; have F := factsAll HL S; (try simp only [factsOf, cellsFrom, and_true, true_and, Nat.reduceAdd] at F)) | (refine wpList_append_box rfl S _ _ _ rfl 42 _ 2 32 Try.underlying23 infoLy rfl (by omega) _ _ _ _ rfl (by first | exact atOf HL (p := 0) rfl | exact atOf HL (p := 1) rfl | exact atOf HL (p := 2) rfl | exact atOf HL (p := 3) rfl | exact atOf HL (p := 4) rfl | exact atOf HL (p := 5) rfl | exact atOf HL (p := 6) rfl | exact atOf HL (p := 7) rfl) (by omega) _ _ _ _ _ _ rfl (by first | exact atOf HL (p := 0) rfl | exact atOf HL (p := 1) rfl | exact atOf HL (p := 2) rfl | exact atOf HL (p := 3) rfl | exact atOf HL (p := 4) rfl | exact atOf HL (p := 5) rfl | exact atOf HL (p := 6) rfl | exact atOf HL (p := 7) rfl) rfl rfl rfl rfl ?_; intro u w L hM T; clear F S; (try rw [HL.out] at hM); clear HL; (try simp [Act.put, Act.eval, Value.cells, splice] at hM); have HL := Lib.hid hM; clear hM; have S := T; clear T; have F := factsAll HL S; (try simp only [factsOf, cellsFrom, and_true, true_and, Nat.reduceAdd] at F)))
        go_roundw
        case rel =>
          rw [HL.out] at S
          exact ⟨j - 1, A, _, _, k2, _, by congr 1; omega, by rw [List.length_append, HLN.out]; simp; omega, rfl, rfl, by omega, by omega, by omega, by rw [List.length_append, HLN.out]; simp; omega, Lib.hid rfl, st_add HLN.out rfl (S.sub (.cons _ (.cons _ (.refl _))))⟩
        case measure => simp [intOf]; omega
    · obtain rfl : j = 0 := by omega
      go_wp2_with (first | (go_at_call 39; refine (C_odd _ _ _ _ _ w0 _ (S.front (by first | exact atOf HL (p := 0) rfl | exact atOf HL (p := 1) rfl | exact atOf HL (p := 2) rfl | exact atOf HL (p := 3) rfl | exact atOf HL (p := 4) rfl | exact atOf HL (p := 5) rfl | exact atOf HL (p := 6) rfl | exact atOf HL (p := 7) rfl)) HB.out ⟨by omega, by omega⟩).mono ?_; rintro e w ⟨y, k', rfl, hk1, hk2, T0⟩; obtain ⟨L, hM, T⟩ := st_name T0; clear T0; clear F S; (try rw [HL.out] at hM); clear HL; (try simp only [List.eraseIdx_cons_zero, List.eraseIdx_cons_succ] at hM); have HL := Lib.hid hM; clear hM; have S := T; clear T; have F := factsAll HL S; (try simp only [factsOf, cellsFrom, and_true, true_and, Nat.reduceAdd] at F)) | ((go_at_call 37; refine (C_pick _ _ _ _ _ w0 _ (S.front (by first | exact atOf HL (p := 0) rfl | exact atOf HL (p := 1) rfl | exact atOf HL (p := 2) rfl | exact atOf HL (p := 3) rfl | exact atOf HL (p := 4) rfl | exact atOf HL (p := 5) rfl | exact atOf HL (p := 6) rfl | exact atOf HL (p := 7) rfl)) HB.out ⟨by omega, by omega⟩).mono ?_; rintro e w ⟨y, rfl, hy0, T0⟩; obtain ⟨L, hM, T⟩ := st_name T0; clear T0; clear F S; (try rw [HL.out] at hM); clear HL; (try simp only [List.eraseIdx_cons_zero, List.eraseIdx_cons_succ] at hM); have HL := Lib.hid hM; clear hM; have S := T; clear T; have F := factsAll HL S; (try simp only [factsOf, cellsFrom, and_true, true_and, Nat.reduceAdd] at F)); have hy := hy0 (by omega); clear hy0) | (at_make; refine wpList_make rfl S _ _ _ rfl 42 _ 2 32 Try.underlying23 infoLy _ 5 rfl rfl rfl (by omega) (by simp only [maxLen]; omega) ?_; intro g w L hM T; clear F S; (try rw [HL.out] at hM); clear HL; (try simp [Act.put, Act.eval, Value.cells, splice] at hM); have HL := Lib.hid hM; clear hM; have S := T; clear T; have F := factsAll HL S; (try simp only [factsOf, cellsFrom, and_true, true_and, Nat.reduceAdd] at F)))
      · rw [show (A : Int) + 1 = ((A + 1 : Nat) : Int) by omega]
        go_at_call 69
        refine (C_l20LayerQ _ _ _ _ 1 (A + 1) B w0 _ (.inl rfl) ⟨⟨by omega, by omega⟩, by omega, by omega⟩ (S.front (atOf HL (p := 0) rfl)) HB.out ⟨by omega, by omega⟩).mono ?_
        rintro e w ⟨u2, kd, ps, k2, rfl, hk5, hk6, hm, T0⟩
        clear hm
        rw [HL.out] at T0
        simp only [List.eraseIdx_cons_zero] at T0
        have T1 := T0.perm (.cons _ (.cons _ List.perm_middle))
        clear T0 S F HL
        have S := T1
        clear T1
        obtain ⟨L, hM, T⟩ := st_name S; clear S; have S := T; clear T; have HL := Lib.hid hM; clear hM; have F := factsAll HL S; (try simp only [factsOf, cellsFrom, and_true, true_and, Nat.reduceAdd] at F)
        obtain ⟨A', cap', rfl, hcap', hmax'⟩ := S.sliceOf (atOf HL (p := 1) rfl)
        go_wp2_with (first | (refine wpList_litL rfl S _ _ rfl 42 Try.underlying23 infoLy _ _ rfl ?_; intro g w L hM T; clear F S; (try rw [HL.out] at hM); clear HL; (try simp [Act.put, Act.eval, Value.cells, splice] at hM); have HL := Lib.hid hM; clear hM; have S := T; clear T; have F := factsAll HL S; (try simp only [factsOf, cellsFrom, and_true, true_and, Nat.reduceAdd] at F)) | (refine wpList_append_box rfl S _ _ _ rfl 42 _ 2 32 Try.underlying23 infoLy rfl (by omega) _ _ _ _ rfl (by first | exact atOf HL (p := 0) rfl | exact atOf HL (p := 1) rfl | exact atOf HL (p := 2) rfl | exact atOf HL (p := 3) rfl | exact atOf HL (p := 4) rfl | exact atOf HL (p := 5) rfl | exact atOf HL (p := 6) rfl | exact atOf HL (p := 7) rfl) (by omega) _ _ _ _ _ _ rfl (by first | exact atOf HL (p := 0) rfl | exact atOf HL (p := 1) rfl | exact atOf HL (p := 2) rfl | exact atOf HL (p := 3) rfl | exact atOf HL (p := 4) rfl | exact atOf HL (p := 5) rfl | exact atOf HL (p := 6) rfl | exact atOf HL (p := 7) rfl) rfl rfl rfl rfl ?_; intro u w L hM T; clear F S; (try rw [HL.out] at hM); clear HL; (try simp [Act.put, Act.eval, Value.cells, splice] at hM); have HL := Lib.hid hM; clear hM; have S := T; clear T; have F := factsAll HL S; (try simp only [factsOf, cellsFrom, and_true, true_and, Nat.reduceAdd] at F)))
        go_ret
        rw [HL.out] at S
        exact ⟨_, _, k2, rfl, by omega, by omega, by rw [List.length_append, HLN.out]; simp; omega, st_add HLN.out rfl (S.sub (.cons _ (.refl _)))⟩
      · go_at_call 69
        refine (C_l20LayerX _ _ _ _ A B w0 _ ⟨⟨by omega, by omega⟩, by omega, by omega⟩ (S.front (atOf HL (p := 0) rfl)) HB.out ⟨by omega, by omega⟩).mono ?_
        rintro e w ⟨u2, kd, ps, k2, rfl, hk5, hk6, hm, T0⟩
        clear hm
        rw [HL.out] at T0
        simp only [List.eraseIdx_cons_zero] at T0
        have T1 := T0.perm (.cons _ (.cons _ List.perm_middle))
        clear T0 S F HL
        have S := T1
        clear T1
        obtain ⟨L, hM, T⟩ := st_name S; clear S; have S := T; clear T; have HL := Lib.hid hM; clear hM; have F := factsAll HL S; (try simp only [factsOf, cellsFrom, and_true, true_and, Nat.reduceAdd] at F)
        obtain ⟨A', cap', rfl, hcap', hmax'⟩ := S.sliceOf (atOf HL (p := 1) rfl)
        go_wp2_with (first | (refine wpList_litL rfl S _ _ rfl 42 Try.underlying23 infoLy _ _ rfl ?_; intro g w L hM T; clear F S; (try rw [HL.out] at hM); clear HL; (try simp [Act.put, Act.eval, Value.cells, splice] at hM); have HL := Lib.hid hM; clear hM; have S := T; clear T; have F := factsAll HL S; (try simp only [factsOf, cellsFrom, and_true, true_and, Nat.reduceAdd] at F)) | (refine wpList_append_box rfl S _ _ _ rfl 42 _ 2 32 Try.underlying23 infoLy rfl (by omega) _ _ _ _ rfl (by first | exact atOf HL (p := 0) rfl | exact atOf HL (p := 1) rfl | exact atOf HL (p := 2) rfl | exact atOf HL (p := 3) rfl | exact atOf HL (p := 4) rfl | exact atOf HL (p := 5) rfl | exact atOf HL (p := 6) rfl | exact atOf HL (p := 7) rfl) (by omega) _ _ _ _ _ _ rfl (by first | exact atOf HL (p := 0) rfl | exact atOf HL (p := 1) rfl | exact atOf HL (p := 2) rfl | exact atOf HL (p := 3) rfl | exact atOf HL (p := 4) rfl | exact atOf HL (p := 5) rfl | exact atOf HL (p := 6) rfl | exact atOf HL (p := 7) rfl) rfl rfl rfl rfl ?_; intro u w L hM T; clear F S; (try rw [HL.out] at hM); clear HL; (try simp [Act.put, Act.eval, Value.cells, splice] at hM); have HL := Lib.hid hM; clear hM; have S := T; clear T; have F := factsAll HL S; (try simp only [factsOf, cellsFrom, and_true, true_and, Nat.reduceAdd] at F)))
        go_ret
        rw [HL.out] at S
        exact ⟨_, _, k2, rfl, by omega, by omega, by rw [List.length_append, HLN.out]; simp; omega, st_add HLN.out rfl (S.sub (.cons _ (.refl _)))⟩
      · go_ret
        rw [HL.out] at S
        have T := ((((S.nilRow 80 3).nilRow 80 3).nilRow 80 3).nilRow 80 3).nilRow 80 3
        have T1 := T.front (p := 6) (show At _ 6 _ from rfl)
        simp only [List.eraseIdx_cons_succ, List.eraseIdx_cons_zero] at T1
        have T2 := T1.front (p := 6) (show At _ 6 _ from rfl)
        simp only [List.eraseIdx_cons_succ, List.eraseIdx_cons_zero] at T2
        have T3 := T2.front (p := 1) (show At _ 1 _ from rfl)
        simp only [List.eraseIdx_cons_succ, List.eraseIdx_cons_zero] at T3
        rw [made5] at T3
        exact ⟨_, five, k' + 1, rfl, by omega, by omega, by decide,
          T3.sub (.cons_cons _ (.cons_cons _ (.cons_cons _ (.cons_cons _ (.cons_cons _ (.cons_cons _ (.cons_cons _ (.cons _ (List.sublist_append_right _ _)))))))))⟩
      · go_ret
        rw [HL.out, ← HLN.out] at S
        exact ⟨_, qs, k', rfl, by omega, by omega, by rw [HLN.out]; omega, S⟩
end Go.Proofs.Ytiiijfhacaomdaa
