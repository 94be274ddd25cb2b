/-
  Contracts of what draws layers (begun).
-/
import Derived.Test.YtkcahoojbigihaaDrawY
import Derived.Test.YtkcahoojbigihaaLyS
namespace Go.Proofs.Ytkcahoojbigihaa
set_option linter.unusedSimpArgs false
set_option linter.unusedVariables false
set_option linter.unusedSectionVars false
open Go Go.RowKit
set_option maxHeartbeats 8000000
set_option maxRecDepth 20000
theorem fill3 (C : Array Value) (hC : C.size = 3) (a b c : Value) : Instr.fill (fun i => some (i * 3, 3)) C [(0, .agg #[a, b, c])] = some #[a, b, c] := by
  obtain ⟨l⟩ := C
  match l, hC with
  | [_, _, _], _ => simp [Instr.fill, Value.cells]
theorem fill333 (C : Array Value) (hC : C.size = 9) (a b c d e f g h i : Value) : Instr.fill (fun i => some (i * 3, 3)) C [(0, .agg #[a, b, c]), (1, .agg #[d, e, f]), (2, .agg #[g, h, i])] = some #[a, b, c, d, e, f, g, h, i] := by
  obtain ⟨l⟩ := C
  match l, hC with
  | [_, _, _, _, _, _, _, _, _], _ => simp [Instr.fill, Value.cells]
section
variable {P : Program} {w0 w : World} {a : Act} {L : List Ent} {o : Oper} {ops : Array Oper} {rest : List Oper} {Q : Exit → Act → World → Prop}
theorem wpList_lit3 (hgd : o.guard = none) (S : St w0 w L) (t : TypeId) (x : Operand) (ho : o.op = .buildSlice t 1 #[(0, x)])
    (e : TypeId) (ht : P.underlying t = some (.slice e)) {z : Value} {bytes : Nat} (hi : (P.info? e).map (fun i => (i.zero, i.size, i.bytes)) = some (some z, 3, bytes))
    (c0 c1 c2 : Value) (hx : a.eval x = .agg #[c0, c1, c2])
    (h : ∀ g w' M, M = .box g e [c0, c1, c2] :: L → St w0 w' M → wpList P ops Q rest (a.put o.dst (.slice (some ⟨g, 0, none⟩) 1 1)) w') : wpList P ops Q (o :: rest) a w :=
  wpList_litS hgd S t 1 _ ho e ht hi #[c0, c1, c2] (fun C hC => by
    show Instr.fill _ C [(0, a.eval x)] = _
    rw [hx]; exact fill3 C hC _ _ _) (by omega) (by omega) h
theorem wpList_lit333 (hgd : o.guard = none) (S : St w0 w L) (t : TypeId) (x y z' : Operand) (ho : o.op = .buildSlice t 3 #[(0, x), (1, y), (2, z')])
    (e : TypeId) (ht : P.underlying t = some (.slice e)) {z : Value} {bytes : Nat} (hi : (P.info? e).map (fun i => (i.zero, i.size, i.bytes)) = some (some z, 3, bytes))
    (c0 c1 c2 d0 d1 d2 e0 e1 e2 : Value) (hx : a.eval x = .agg #[c0, c1, c2]) (hy : a.eval y = .agg #[d0, d1, d2]) (hz : a.eval z' = .agg #[e0, e1, e2])
    (h : ∀ g w' M, M = .box g e [c0, c1, c2, d0, d1, d2, e0, e1, e2] :: L → St w0 w' M → wpList P ops Q rest (a.put o.dst (.slice (some ⟨g, 0, none⟩) 3 3)) w') : wpList P ops Q (o :: rest) a w :=
  wpList_litS hgd S t 3 _ ho e ht hi #[c0, c1, c2, d0, d1, d2, e0, e1, e2] (fun C hC => by
    show Instr.fill _ C [(0, a.eval x), (1, a.eval y), (2, a.eval z')] = _
    rw [hx, hy, hz]; exact fill333 C hC _ _ _ _ _ _ _ _ _) (by omega) (by omega) h
end
/-- A layer is drawn: the reader, its matrices behind it. -/
def DrawsLy (R : List Ent) (g : Nat) (v : Value) (k kind m : Int) (w0 : World) (e : Ending) (w' : World) : Prop :=
  ∃ (u : Value) (kd : Int) (ps : MsO) (k' : Int), e = .returned (.agg #[.int .i64 kd, u]) ∧ k ≤ k' ∧ k' ≤ k + 3000 ∧ (ps.length ≤ 4 ∧ ∀ p ∈ ps, p.2.xs.length ≤ 26) ∧ (m = 0 → kd = kind ∧ (kind = 1 → ∃ (p : Value × Mx) (q : MsO) (A : Nat), ps = p :: q ∧ p.2.r = A ∧ 1 ≤ A ∧ A ≤ 3)) ∧ St w0 w' (.box g 91 [v, .int .i64 k'] :: (entsM u ps ++ R))
theorem drawsLy_two {R : List Ent} {g : Nat} {v : Value} {k kind m : Int} {w0 w : World} {kd k' : Int} {u v1 v2 : Value} {r1 c1 r2 c2 : Int} {x1 x2 : List Int}
    (T : St w0 w (.box g 91 [v, .int .i64 k'] :: .row 28 3 u 2 [.int .i64 r1, .int .i64 c1, v1, .int .i64 r2, .int .i64 c2, v2] :: .row 3 1 v1 x1.length (ints x1) :: .row 3 1 v2 x2.length (ints x2) :: R))
    (h1 : k ≤ k') (h2 : k' ≤ k + 3000) (hx : x1.length ≤ 26 ∧ x2.length ≤ 26) (hm : m = 0 → kd = kind ∧ (kind = 1 → ∃ A : Nat, r1 = A ∧ 1 ≤ A ∧ A ≤ 3)) : DrawsLy R g v k kind m w0 (.returned (.agg #[.int .i64 kd, u])) w :=
  ⟨u, kd, [(v1, ⟨r1, c1, x1⟩), (v2, ⟨r2, c2, x2⟩)], k', rfl, h1, h2, ⟨by simp, by simpa using hx⟩, fun h => ⟨(hm h).1, fun hk => by
    obtain ⟨A, ha, hb⟩ := (hm h).2 hk
    exact ⟨_, _, A, rfl, ha, hb⟩⟩, T⟩
theorem C_l20LayerOne (R : List Ent) (gr : Nat) (v : Value) (k : Int) (A B : Nat) (w0 w1 : World) (hAB : (1 ≤ A ∧ A ≤ 5) ∧ 1 ≤ B ∧ B ≤ 5) (S0 : St w0 w1 (.box gr 91 [v, .int .i64 k] :: R)) (hB : Bytes w0 v) (hk : 0 ≤ k ∧ k ≤ 400000000) :
    Calls Try.prog 32 #[.pointer (some ⟨gr, 0, none⟩), .int .i64 1, .int .i64 A, .int .i64 B, .int .i64 0] w1 (DrawsLy R gr v k 1 0 w0) := by
  have HB := Lib.hid hB
  obtain ⟨k1, k2⟩ := hk
  obtain ⟨⟨A1, A2⟩, B1, B2⟩ := hAB
  clear hB
  obtain ⟨L, HL, S⟩ := st_name S0
  clear S0
  replace HL := Lib.hid HL
  have F := factsAll HL S
  simp only [factsOf, cellsFrom, and_true, true_and, Nat.reduceAdd] at F
  go_enter Try.func32, Try.ntmps32
  go_upto_region 1 with (first | (refine wpList_alloc rfl S 25 _ rfl zLy ?_; intro g10 w L hM T; clear F S; (try rw [HL.out] at hM); clear HL; (try simp [Act.put, Act.eval, Value.cells, splice] at hM); have HL := Lib.hid hM; clear hM; have S := T; clear T; have F := factsAll HL S; (try simp only [factsOf, cellsFrom, and_true, true_and, Nat.reduceAdd] at F)))
  go_upto_region 4 with (first | (refine wpList_alloc rfl S 25 _ rfl zLy ?_; intro g11 w L hM T; clear F S; (try rw [HL.out] at hM); clear HL; (try simp [Act.put, Act.eval, Value.cells, splice] at hM); have HL := Lib.hid hM; clear hM; have S := T; clear T; have F := factsAll HL S; (try simp only [factsOf, cellsFrom, and_true, true_and, Nat.reduceAdd] at F)) | (refine wpList_store_box rfl S _ _ _ rfl 0 _ _ _ _ (atOf HL rfl) rfl _ rfl (by kernel_rfl) rfl rfl ?_; intro w L hM T; clear F S; (try rw [HL.out] at hM); clear HL; (try simp [Act.put, Act.eval, Value.cells, splice] at hM); have HL := Lib.hid hM; clear hM; have S := T; clear T; have F := factsAll HL S; (try simp only [factsOf, cellsFrom, and_true, true_and, Nat.reduceAdd] at F)))
  go_upto_region 5 with (first | ((go_at_call 31; refine (C_pick _ _ _ _ _ w0 _ (S.front (by first | exact atOf HL (p := 0) rfl | exact atOf HL (p := 1) rfl | exact atOf HL (p := 2) rfl | exact atOf HL (p := 3) rfl | exact atOf HL (p := 4) rfl | exact atOf HL (p := 5) rfl | exact atOf HL (p := 6) rfl | exact atOf HL (p := 7) rfl)) HB.out ⟨by omega, by omega⟩).mono ?_; rintro e w ⟨y, rfl, hy0, T0⟩; obtain ⟨L, hM, T⟩ := st_name T0; clear T0; clear F S; (try rw [HL.out] at hM); clear HL; (try simp only [List.eraseIdx_cons_zero, List.eraseIdx_cons_succ] at hM); have HL := Lib.hid hM; clear hM; have S := T; clear T; have F := factsAll HL S; (try simp only [factsOf, cellsFrom, and_true, true_and, Nat.reduceAdd] at F)); have hy := hy0 (by omega); clear hy0; obtain ⟨j, hj⟩ : ∃ j : Nat, 1 + y = (j : Int) := ⟨(1 + y).toNat, by omega⟩))
  have j1 : 1 ≤ j := by omega
  have j2 : j ≤ 3 := by omega
  go_upto_region 8 with (first | ((go_at_call 34; refine (C_l20MatrixG _ _ _ _ _ _ _ w0 _ ⟨⟨by omega, by omega⟩, by omega, by omega⟩ (by omega) (S.front (by first | exact atOf HL (p := 0) rfl | exact atOf HL (p := 1) rfl | exact atOf HL (p := 2) rfl | exact atOf HL (p := 3) rfl | exact atOf HL (p := 4) rfl | exact atOf HL (p := 5) rfl | exact atOf HL (p := 6) rfl | exact atOf HL (p := 7) rfl)) HB.out ⟨by omega, by omega⟩).mono ?_; rintro e w ⟨u3, mr, mc, xs3, k3, rfl, hxl3, hk5, hk6, hrc3, T0⟩; obtain ⟨L, hM, T⟩ := st_name T0; clear T0; clear F S; (try rw [HL.out] at hM); clear HL; (try simp only [List.eraseIdx_cons_zero, List.eraseIdx_cons_succ] at hM); have HL := Lib.hid hM; clear hM; have S := T; clear T; have F := factsAll HL S; (try simp only [factsOf, cellsFrom, and_true, true_and, Nat.reduceAdd] at F)); obtain ⟨A', cap', rfl, hcap', hmax'⟩ := S.sliceOf (atOf HL (p := 0) rfl); obtain ⟨rfl, rfl, hxn, hall⟩ := hrc3 rfl; clear hrc3 hxn hall) | ((go_at_call 34; refine (C_l20MatrixG _ _ _ _ _ _ 1 w0 _ ⟨⟨by omega, by omega⟩, by omega, by omega⟩ (by omega) (S.front (by first | exact atOf HL (p := 0) rfl | exact atOf HL (p := 1) rfl | exact atOf HL (p := 2) rfl | exact atOf HL (p := 3) rfl | exact atOf HL (p := 4) rfl | exact atOf HL (p := 5) rfl | exact atOf HL (p := 6) rfl | exact atOf HL (p := 7) rfl)) HB.out ⟨by omega, by omega⟩).mono ?_; rintro e w ⟨u3, mr, mc, xs3, k3, rfl, hxl3, hk5, hk6, hrc3, T0⟩; obtain ⟨L, hM, T⟩ := st_name T0; clear T0; clear F S; (try rw [HL.out] at hM); clear HL; (try simp only [List.eraseIdx_cons_zero, List.eraseIdx_cons_succ] at hM); have HL := Lib.hid hM; clear hM; have S := T; clear T; have F := factsAll HL S; (try simp only [factsOf, cellsFrom, and_true, true_and, Nat.reduceAdd] at F)); obtain ⟨A', cap', rfl, hcap', hmax'⟩ := S.sliceOf (atOf HL (p := 0) rfl); obtain ⟨rfl, rfl, hxn, hall⟩ := hrc3 rfl; clear hrc3 hxn hall) | (refine wpList_lit33 rfl S _ _ _ rfl 28 Try.underlying23 infoMx _ _ _ _ _ _ rfl rfl ?_; intro g w L hM T; clear F S; (try rw [HL.out] at hM); clear HL; (try simp [Act.put, Act.eval, Value.cells, splice] at hM); have HL := Lib.hid hM; clear hM; have S := T; clear T; have F := factsAll HL S; (try simp only [factsOf, cellsFrom, and_true, true_and, Nat.reduceAdd] at F)) | (refine wpList_store_box rfl S _ _ _ rfl 3 _ _ _ _ (atOf HL rfl) rfl _ rfl (by kernel_rfl) rfl rfl ?_; intro w L hM T; clear F S; (try rw [HL.out] at hM); clear HL; (try simp [Act.put, Act.eval, Value.cells, splice] at hM); have HL := Lib.hid hM; clear hM; have S := T; clear T; have F := factsAll HL S; (try simp only [factsOf, cellsFrom, and_true, true_and, Nat.reduceAdd] at F)) | (refine wpList_store_box rfl S _ _ _ rfl 4 _ _ _ _ (atOf HL rfl) rfl _ rfl (by kernel_rfl) rfl rfl ?_; intro w L hM T; clear F S; (try rw [HL.out] at hM); clear HL; (try simp [Act.put, Act.eval, Value.cells, splice] at hM); have HL := Lib.hid hM; clear hM; have S := T; clear T; have F := factsAll HL S; (try simp only [factsOf, cellsFrom, and_true, true_and, Nat.reduceAdd] at F)) | (refine wpList_store_box rfl S _ _ _ rfl 5 _ _ _ _ (atOf HL rfl) rfl _ rfl (by kernel_rfl) rfl rfl ?_; intro w L hM T; clear F S; (try rw [HL.out] at hM); clear HL; (try simp [Act.put, Act.eval, Value.cells, splice] at hM); have HL := Lib.hid hM; clear hM; have S := T; clear T; have F := factsAll HL S; (try simp only [factsOf, cellsFrom, and_true, true_and, Nat.reduceAdd] at F)))
  go_wp2_with (first | (go_at_call 33; refine (C_odd0 _ _ _ _ w0 _ (S.front (by first | exact atOf HL (p := 0) rfl | exact atOf HL (p := 1) rfl | exact atOf HL (p := 2) rfl | exact atOf HL (p := 3) rfl | exact atOf HL (p := 4) rfl | exact atOf HL (p := 5) rfl | exact atOf HL (p := 6) rfl | exact atOf HL (p := 7) rfl))).mono ?_; rintro e w ⟨rfl, T0⟩; obtain ⟨L, hM, T⟩ := st_name T0; clear T0; clear F S; (try rw [HL.out] at hM); clear HL; (try simp only [List.eraseIdx_cons_zero, List.eraseIdx_cons_succ] at hM); have HL := Lib.hid hM; clear hM; have S := T; clear T; have F := factsAll HL S; (try simp only [factsOf, cellsFrom, and_true, true_and, Nat.reduceAdd] at F)) | (refine wpList_store_box rfl S _ _ _ rfl 4 _ _ _ _ (atOf HL rfl) rfl _ rfl (by kernel_rfl) rfl rfl ?_; intro w L hM T; clear F S; (try rw [HL.out] at hM); clear HL; (try simp [Act.put, Act.eval, Value.cells, splice] at hM); have HL := Lib.hid hM; clear hM; have S := T; clear T; have F := factsAll HL S; (try simp only [factsOf, cellsFrom, and_true, true_and, Nat.reduceAdd] at F)) | (refine wpList_store_box rfl S _ _ _ rfl 5 _ _ _ _ (atOf HL rfl) rfl _ rfl (by kernel_rfl) rfl rfl ?_; intro w L hM T; clear F S; (try rw [HL.out] at hM); clear HL; (try simp [Act.put, Act.eval, Value.cells, splice] at hM); have HL := Lib.hid hM; clear hM; have S := T; clear T; have F := factsAll HL S; (try simp only [factsOf, cellsFrom, and_true, true_and, Nat.reduceAdd] at F)))
  ((try simp only [Exit.inBlock, Exit.then]); refine ret1 rfl (resCell S HL 5 rfl rfl (by kernel_rfl)) rfl ?_)
  rw [HL.out] at S
  have T := S.asRow (p := 1) (size := 3) (n := 2) rfl rfl (by simp [maxLen])
  simp only [List.set_cons_zero, List.set_cons_succ] at T
  have T1 := T.front (p := 2) (show At _ 2 _ from rfl)
  simp only [List.eraseIdx_cons_succ, List.eraseIdx_cons_zero] at T1
  have T2 := T1.front (p := 3) (show At _ 3 _ from rfl)
  simp only [List.eraseIdx_cons_succ, List.eraseIdx_cons_zero] at T2
  have T3 := T2.front (p := 3) (show At _ 3 _ from rfl)
  simp only [List.eraseIdx_cons_succ, List.eraseIdx_cons_zero] at T3
  have T4 := T3.front (p := 3) (show At _ 3 _ from rfl)
  simp only [List.eraseIdx_cons_succ, List.eraseIdx_cons_zero] at T4
  exact drawsLy_two (T4.sub (.cons_cons _ (.cons_cons _ (.cons_cons _ (.cons_cons _ (.cons _ (.cons _ (.refl _)))))))) (by omega) (by omega) (by omega) fun _ => ⟨rfl, fun _ => ⟨j, rfl, j1, j2⟩⟩
theorem C_l20LayerTwo (R : List Ent) (gr : Nat) (v : Value) (k : Int) (A B : Nat) (w0 w1 : World) (hAB : (1 ≤ A ∧ A ≤ 5) ∧ 1 ≤ B ∧ B ≤ 5) (S0 : St w0 w1 (.box gr 91 [v, .int .i64 k] :: R)) (hB : Bytes w0 v) (hk : 0 ≤ k ∧ k ≤ 400000000) :
    Calls Try.prog 32 #[.pointer (some ⟨gr, 0, none⟩), .int .i64 2, .int .i64 A, .int .i64 B, .int .i64 0] w1 (DrawsLy R gr v k 2 0 w0) := by
  have HB := Lib.hid hB
  obtain ⟨k1, k2⟩ := hk
  obtain ⟨⟨A1, A2⟩, B1, B2⟩ := hAB
  clear hB
  obtain ⟨L, HL, S⟩ := st_name S0
  clear S0
  replace HL := Lib.hid HL
  have F := factsAll HL S
  simp only [factsOf, cellsFrom, and_true, true_and, Nat.reduceAdd] at F
  go_enter Try.func32, Try.ntmps32
  go_upto_region 1 with (first | (refine wpList_alloc rfl S 25 _ rfl zLy ?_; intro g10 w L hM T; clear F S; (try rw [HL.out] at hM); clear HL; (try simp [Act.put, Act.eval, Value.cells, splice] at hM); have HL := Lib.hid hM; clear hM; have S := T; clear T; have F := factsAll HL S; (try simp only [factsOf, cellsFrom, and_true, true_and, Nat.reduceAdd] at F)))
  go_upto_region 3 with (first | (refine wpList_alloc rfl S 25 _ rfl zLy ?_; intro g11 w L hM T; clear F S; (try rw [HL.out] at hM); clear HL; (try simp [Act.put, Act.eval, Value.cells, splice] at hM); have HL := Lib.hid hM; clear hM; have S := T; clear T; have F := factsAll HL S; (try simp only [factsOf, cellsFrom, and_true, true_and, Nat.reduceAdd] at F)) | (refine wpList_store_box rfl S _ _ _ rfl 0 _ _ _ _ (atOf HL rfl) rfl _ rfl (by kernel_rfl) rfl rfl ?_; intro w L hM T; clear F S; (try rw [HL.out] at hM); clear HL; (try simp [Act.put, Act.eval, Value.cells, splice] at hM); have HL := Lib.hid hM; clear hM; have S := T; clear T; have F := factsAll HL S; (try simp only [factsOf, cellsFrom, and_true, true_and, Nat.reduceAdd] at F)))
  go_wp2_with (first | (go_at_call 33; refine (C_odd0 _ _ _ _ w0 _ (S.front (by first | exact atOf HL (p := 0) rfl | exact atOf HL (p := 1) rfl | exact atOf HL (p := 2) rfl | exact atOf HL (p := 3) rfl | exact atOf HL (p := 4) rfl | exact atOf HL (p := 5) rfl | exact atOf HL (p := 6) rfl | exact atOf HL (p := 7) rfl))).mono ?_; rintro e w ⟨rfl, T0⟩; obtain ⟨L, hM, T⟩ := st_name T0; clear T0; clear F S; (try rw [HL.out] at hM); clear HL; (try simp only [List.eraseIdx_cons_zero, List.eraseIdx_cons_succ] at hM); have HL := Lib.hid hM; clear hM; have S := T; clear T; have F := factsAll HL S; (try simp only [factsOf, cellsFrom, and_true, true_and, Nat.reduceAdd] at F)) | (refine wpList_store_box rfl S _ _ _ rfl 1 _ _ _ _ (atOf HL rfl) rfl _ rfl (by kernel_rfl) rfl rfl ?_; intro w L hM T; clear F S; (try rw [HL.out] at hM); clear HL; (try simp [Act.put, Act.eval, Value.cells, splice] at hM); have HL := Lib.hid hM; clear hM; have S := T; clear T; have F := factsAll HL S; (try simp only [factsOf, cellsFrom, and_true, true_and, Nat.reduceAdd] at F)) | (refine wpList_store_box rfl S _ _ _ rfl 2 _ _ _ _ (atOf HL rfl) rfl _ rfl (by kernel_rfl) rfl rfl ?_; intro w L hM T; clear F S; (try rw [HL.out] at hM); clear HL; (try simp [Act.put, Act.eval, Value.cells, splice] at hM); have HL := Lib.hid hM; clear hM; have S := T; clear T; have F := factsAll HL S; (try simp only [factsOf, cellsFrom, and_true, true_and, Nat.reduceAdd] at F)))
  ((try simp only [Exit.inBlock, Exit.then]); refine ret1 rfl (resCell S HL 2 rfl rfl (by kernel_rfl)) rfl ?_)
  rw [HL.out] at S
  have T := (S.nilRow 28 3).front (p := 1) (show At _ 1 _ from rfl)
  simp only [List.eraseIdx_cons_succ, List.eraseIdx_cons_zero] at T
  exact ⟨_, _, [], k, rfl, by omega, by omega, ⟨by simp, by simp⟩, fun _ => ⟨rfl, fun h => absurd h (by omega)⟩, T.sub (.cons_cons _ (.cons_cons _ (.cons _ (.cons _ (.refl _)))))⟩
theorem drawsLy_three {R : List Ent} {g : Nat} {v : Value} {k kind m : Int} {w0 w : World} {kd k' : Int} {u v1 v2 v3 : Value} {r1 c1 r2 c2 r3 c3 : Int} {x1 x2 x3 : List Int}
    (T : St w0 w (.box g 91 [v, .int .i64 k'] :: .row 28 3 u 3 [.int .i64 r1, .int .i64 c1, v1, .int .i64 r2, .int .i64 c2, v2, .int .i64 r3, .int .i64 c3, v3] :: .row 3 1 v1 x1.length (ints x1) :: .row 3 1 v2 x2.length (ints x2) :: .row 3 1 v3 x3.length (ints x3) :: R))
    (h1 : k ≤ k') (h2 : k' ≤ k + 3000) (hx : x1.length ≤ 26 ∧ x2.length ≤ 26 ∧ x3.length ≤ 26) (hm : m = 0 → kd = kind ∧ ¬ kind = 1) : DrawsLy R g v k kind m w0 (.returned (.agg #[.int .i64 kd, u])) w :=
  ⟨u, kd, [(v1, ⟨r1, c1, x1⟩), (v2, ⟨r2, c2, x2⟩), (v3, ⟨r3, c3, x3⟩)], k', rfl, h1, h2, ⟨by simp, by simpa using hx⟩, fun h => ⟨(hm h).1, fun hk => absurd hk (hm h).2⟩, T⟩
theorem C_l20LayerThree (R : List Ent) (gr : Nat) (v : Value) (k : Int) (A B : Nat) (w0 w1 : World) (hAB : (1 ≤ A ∧ A ≤ 5) ∧ 1 ≤ B ∧ B ≤ 5) (S0 : St w0 w1 (.box gr 91 [v, .int .i64 k] :: R)) (hB : Bytes w0 v) (hk : 0 ≤ k ∧ k ≤ 400000000) :
    Calls Try.prog 32 #[.pointer (some ⟨gr, 0, none⟩), .int .i64 3, .int .i64 A, .int .i64 B, .int .i64 0] w1 (DrawsLy R gr v k 3 0 w0) := by
  have HB := Lib.hid hB
  obtain ⟨k1, k2⟩ := hk
  obtain ⟨⟨A1, A2⟩, B1, B2⟩ := hAB
  clear hB
  obtain ⟨L, HL, S⟩ := st_name S0
  clear S0
  replace HL := Lib.hid HL
  have F := factsAll HL S
  simp only [factsOf, cellsFrom, and_true, true_and, Nat.reduceAdd] at F
  go_enter Try.func32, Try.ntmps32
  go_upto_region 1 with (first | (refine wpList_alloc rfl S 25 _ rfl zLy ?_; intro g10 w L hM T; clear F S; (try rw [HL.out] at hM); clear HL; (try simp [Act.put, Act.eval, Value.cells, splice] at hM); have HL := Lib.hid hM; clear hM; have S := T; clear T; have F := factsAll HL S; (try simp only [factsOf, cellsFrom, and_true, true_and, Nat.reduceAdd] at F)))
  go_upto_region 3 with (first | (refine wpList_alloc rfl S 25 _ rfl zLy ?_; intro g11 w L hM T; clear F S; (try rw [HL.out] at hM); clear HL; (try simp [Act.put, Act.eval, Value.cells, splice] at hM); have HL := Lib.hid hM; clear hM; have S := T; clear T; have F := factsAll HL S; (try simp only [factsOf, cellsFrom, and_true, true_and, Nat.reduceAdd] at F)) | (refine wpList_store_box rfl S _ _ _ rfl 0 _ _ _ _ (atOf HL rfl) rfl _ rfl (by kernel_rfl) rfl rfl ?_; intro w L hM T; clear F S; (try rw [HL.out] at hM); clear HL; (try simp [Act.put, Act.eval, Value.cells, splice] at hM); have HL := Lib.hid hM; clear hM; have S := T; clear T; have F := factsAll HL S; (try simp only [factsOf, cellsFrom, and_true, true_and, Nat.reduceAdd] at F)))
  go_upto_region 8 with (first | ((go_at_call 34; refine (C_l20MatrixG _ _ _ _ _ _ _ w0 _ ⟨⟨by omega, by omega⟩, by omega, by omega⟩ (by omega) (S.front (by first | exact atOf HL (p := 0) rfl | exact atOf HL (p := 1) rfl | exact atOf HL (p := 2) rfl | exact atOf HL (p := 3) rfl | exact atOf HL (p := 4) rfl | exact atOf HL (p := 5) rfl | exact atOf HL (p := 6) rfl | exact atOf HL (p := 7) rfl)) HB.out ⟨by omega, by omega⟩).mono ?_; rintro e w ⟨u3, mr, mc, xs3, k3, rfl, hxl3, hk5, hk6, hrc3, T0⟩; obtain ⟨L, hM, T⟩ := st_name T0; clear T0; clear F S; (try rw [HL.out] at hM); clear HL; (try simp only [List.eraseIdx_cons_zero, List.eraseIdx_cons_succ] at hM); have HL := Lib.hid hM; clear hM; have S := T; clear T; have F := factsAll HL S; (try simp only [factsOf, cellsFrom, and_true, true_and, Nat.reduceAdd] at F)); obtain ⟨A', cap', rfl, hcap', hmax'⟩ := S.sliceOf (atOf HL (p := 0) rfl); obtain ⟨rfl, rfl, hxn, hall⟩ := hrc3 rfl; clear hrc3 hxn hall) | (refine wpList_lit333 rfl S _ _ _ _ rfl 28 Try.underlying23 infoMx _ _ _ _ _ _ _ _ _ rfl rfl rfl ?_; intro g w L hM T; clear F S; (try rw [HL.out] at hM); clear HL; (try simp [Act.put, Act.eval, Value.cells, splice] at hM); have HL := Lib.hid hM; clear hM; have S := T; clear T; have F := factsAll HL S; (try simp only [factsOf, cellsFrom, and_true, true_and, Nat.reduceAdd] at F)) | (refine wpList_store_box rfl S _ _ _ rfl 3 _ _ _ _ (atOf HL rfl) rfl _ rfl (by kernel_rfl) rfl rfl ?_; intro w L hM T; clear F S; (try rw [HL.out] at hM); clear HL; (try simp [Act.put, Act.eval, Value.cells, splice] at hM); have HL := Lib.hid hM; clear hM; have S := T; clear T; have F := factsAll HL S; (try simp only [factsOf, cellsFrom, and_true, true_and, Nat.reduceAdd] at F)) | (refine wpList_store_box rfl S _ _ _ rfl 4 _ _ _ _ (atOf HL rfl) rfl _ rfl (by kernel_rfl) rfl rfl ?_; intro w L hM T; clear F S; (try rw [HL.out] at hM); clear HL; (try simp [Act.put, Act.eval, Value.cells, splice] at hM); have HL := Lib.hid hM; clear hM; have S := T; clear T; have F := factsAll HL S; (try simp only [factsOf, cellsFrom, and_true, true_and, Nat.reduceAdd] at F)) | (refine wpList_store_box rfl S _ _ _ rfl 5 _ _ _ _ (atOf HL rfl) rfl _ rfl (by kernel_rfl) rfl rfl ?_; intro w L hM T; clear F S; (try rw [HL.out] at hM); clear HL; (try simp [Act.put, Act.eval, Value.cells, splice] at hM); have HL := Lib.hid hM; clear hM; have S := T; clear T; have F := factsAll HL S; (try simp only [factsOf, cellsFrom, and_true, true_and, Nat.reduceAdd] at F)) | (refine wpList_store_box rfl S _ _ _ rfl 6 _ _ _ _ (atOf HL rfl) rfl _ rfl (by kernel_rfl) rfl rfl ?_; intro w L hM T; clear F S; (try rw [HL.out] at hM); clear HL; (try simp [Act.put, Act.eval, Value.cells, splice] at hM); have HL := Lib.hid hM; clear hM; have S := T; clear T; have F := factsAll HL S; (try simp only [factsOf, cellsFrom, and_true, true_and, Nat.reduceAdd] at F)))
  go_wp2_with (first | (go_at_call 33; refine (C_odd0 _ _ _ _ w0 _ (S.front (by first | exact atOf HL (p := 0) rfl | exact atOf HL (p := 1) rfl | exact atOf HL (p := 2) rfl | exact atOf HL (p := 3) rfl | exact atOf HL (p := 4) rfl | exact atOf HL (p := 5) rfl | exact atOf HL (p := 6) rfl | exact atOf HL (p := 7) rfl))).mono ?_; rintro e w ⟨rfl, T0⟩; obtain ⟨L, hM, T⟩ := st_name T0; clear T0; clear F S; (try rw [HL.out] at hM); clear HL; (try simp only [List.eraseIdx_cons_zero, List.eraseIdx_cons_succ] at hM); have HL := Lib.hid hM; clear hM; have S := T; clear T; have F := factsAll HL S; (try simp only [factsOf, cellsFrom, and_true, true_and, Nat.reduceAdd] at F)) | (refine wpList_store_box rfl S _ _ _ rfl 5 _ _ _ _ (atOf HL rfl) rfl _ rfl (by kernel_rfl) rfl rfl ?_; intro w L hM T; clear F S; (try rw [HL.out] at hM); clear HL; (try simp [Act.put, Act.eval, Value.cells, splice] at hM); have HL := Lib.hid hM; clear hM; have S := T; clear T; have F := factsAll HL S; (try simp only [factsOf, cellsFrom, and_true, true_and, Nat.reduceAdd] at F)) | (refine wpList_store_box rfl S _ _ _ rfl 6 _ _ _ _ (atOf HL rfl) rfl _ rfl (by kernel_rfl) rfl rfl ?_; intro w L hM T; clear F S; (try rw [HL.out] at hM); clear HL; (try simp [Act.put, Act.eval, Value.cells, splice] at hM); have HL := Lib.hid hM; clear hM; have S := T; clear T; have F := factsAll HL S; (try simp only [factsOf, cellsFrom, and_true, true_and, Nat.reduceAdd] at F)))
  ((try simp only [Exit.inBlock, Exit.then]); refine ret1 rfl (resCell S HL 6 rfl rfl (by kernel_rfl)) rfl ?_)
  rw [HL.out] at S
  have T := S.asRow (p := 1) (size := 3) (n := 3) rfl rfl (by simp [maxLen])
  simp only [List.set_cons_zero, List.set_cons_succ] at T
  have T1 := T.front (p := 2) (show At _ 2 _ from rfl)
  simp only [List.eraseIdx_cons_succ, List.eraseIdx_cons_zero] at T1
  have T2 := T1.front (p := 3) (show At _ 3 _ from rfl)
  simp only [List.eraseIdx_cons_succ, List.eraseIdx_cons_zero] at T2
  have T3 := T2.front (p := 4) (show At _ 4 _ from rfl)
  simp only [List.eraseIdx_cons_succ, List.eraseIdx_cons_zero] at T3
  have T4 := T3.front (p := 4) (show At _ 4 _ from rfl)
  simp only [List.eraseIdx_cons_succ, List.eraseIdx_cons_zero] at T4
  have T5 := T4.front (p := 4) (show At _ 4 _ from rfl)
  simp only [List.eraseIdx_cons_succ, List.eraseIdx_cons_zero] at T5
  exact drawsLy_three (T5.sub (.cons_cons _ (.cons_cons _ (.cons_cons _ (.cons_cons _ (.cons_cons _ (.cons _ (.cons _ (.refl _))))))))) (by omega) (by omega) (by omega) fun _ => ⟨rfl, by omega⟩
end Go.Proofs.Ytkcahoojbigihaa
