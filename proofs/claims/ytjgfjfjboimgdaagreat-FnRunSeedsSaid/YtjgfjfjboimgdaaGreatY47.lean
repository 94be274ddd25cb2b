/- DrM -/
import Derived.Test.YtjgfjfjboimgdaaGreatY36
import Derived.Test.YtjgfjfjboimgdaaGreatY46
namespace Go.Proofs.YtjgfjfjboimgdaaGreat
set_option linter.unusedSimpArgs false
set_option linter.unusedVariables false
set_option linter.unusedSectionVars false
open Go Go.RowKit
set_option maxHeartbeats 8000000
set_option maxRecDepth 20000
section
set_option maxHeartbeats 2000000
theorem fill3 (C : Array Value) (hC : C.size = 3) (a b c : Value) : Instr.fill (fun i => some (i * 3, 3)) C [(0, .agg #[a, b, c])] = some #[a, b, c] := by
  obtain ⟨l⟩ := C
  match l, hC with
  | [_, _, _], _ => simp [Instr.fill, Value.cells]
theorem fill333 (C : Array Value) (hC : C.size = 9) (a b c d e f g h i : Value) : Instr.fill (fun i => some (i * 3, 3)) C [(0, .agg #[a, b, c]), (1, .agg #[d, e, f]), (2, .agg #[g, h, i])] = some #[a, b, c, d, e, f, g, h, i] := by
  obtain ⟨l⟩ := C
  match l, hC with
  | [_, _, _, _, _, _, _, _, _], _ => simp [Instr.fill, Value.cells]
section
variable {P : Program} {w0 w : World} {a : Act} {L : List Ent} {o : Oper} {ops : Array Oper} {rest : List Oper} {Q : Exit → Act → World → Prop}
theorem wpList_lit3 (hgd : o.guard = none) (S : St w0 w L) (t : TypeId) (x : Operand) (ho : o.op = .buildSlice t 1 #[(0, x)])
    (e : TypeId) (ht : P.underlying t = some (.slice e)) {z : Value} {bytes : Nat} (hi : (P.info? e).map (fun i => (i.zero, i.size, i.bytes)) = some (some z, 3, bytes))
    (c0 c1 c2 : Value) (hx : a.eval x = .agg #[c0, c1, c2])
    (h : ∀ g w' M, M = .box g e [c0, c1, c2] :: L → St w0 w' M → wpList P ops Q rest (a.put o.dst (.slice (some ⟨g, 0, none⟩) 1 1)) w') : wpList P ops Q (o :: rest) a w :=
  wpList_litS hgd S t 1 _ ho e ht hi #[c0, c1, c2] (fun C hC => by
    show Instr.fill _ C [(0, a.eval x)] = _
    rw [hx]; exact fill3 C hC _ _ _) (by omega) (by omega) h
theorem wpList_lit333 (hgd : o.guard = none) (S : St w0 w L) (t : TypeId) (x y z' : Operand) (ho : o.op = .buildSlice t 3 #[(0, x), (1, y), (2, z')])
    (e : TypeId) (ht : P.underlying t = some (.slice e)) {z : Value} {bytes : Nat} (hi : (P.info? e).map (fun i => (i.zero, i.size, i.bytes)) = some (some z, 3, bytes))
    (c0 c1 c2 d0 d1 d2 e0 e1 e2 : Value) (hx : a.eval x = .agg #[c0, c1, c2]) (hy : a.eval y = .agg #[d0, d1, d2]) (hz : a.eval z' = .agg #[e0, e1, e2])
    (h : ∀ g w' M, M = .box g e [c0, c1, c2, d0, d1, d2, e0, e1, e2] :: L → St w0 w' M → wpList P ops Q rest (a.put o.dst (.slice (some ⟨g, 0, none⟩) 3 3)) w') : wpList P ops Q (o :: rest) a w :=
  wpList_litS hgd S t 3 _ ho e ht hi #[c0, c1, c2, d0, d1, d2, e0, e1, e2] (fun C hC => by
    show Instr.fill _ C [(0, a.eval x), (1, a.eval y), (2, a.eval z')] = _
    rw [hx, hy, hz]; exact fill333 C hC _ _ _ _ _ _ _ _ _) (by omega) (by omega) h
end
def DrawsLy (R : List Ent) (g : Nat) (v : Value) (k kind m : Int) (w0 : World) (e : Ending) (w' : World) : Prop :=
  ∃ (u : Value) (kd : Int) (ps : MsO) (k' : Int), e = .returned (.agg #[.int .i64 kd, u]) ∧ k ≤ k' ∧ k' ≤ k + 3000 ∧ (ps.length ≤ 4 ∧ ∀ p ∈ ps, p.2.xs.length ≤ 26) ∧ (m = 0 → kd = kind ∧ (kind = 1 → ∃ (p : Value × Mx) (q : MsO) (A : Nat), ps = p :: q ∧ p.2.r = A ∧ 1 ≤ A ∧ A ≤ 3)) ∧ St w0 w' (.box g 143 [v, .int .i64 k'] :: (entsM u ps ++ R))
theorem drawsLy_two {R : List Ent} {g : Nat} {v : Value} {k kind m : Int} {w0 w : World} {kd k' : Int} {u v1 v2 : Value} {r1 c1 r2 c2 : Int} {x1 x2 : List Int}
    (T : St w0 w (.box g 143 [v, .int .i64 k'] :: .row 30 3 u 2 [.int .i64 r1, .int .i64 c1, v1, .int .i64 r2, .int .i64 c2, v2] :: .row 3 1 v1 x1.length (ints x1) :: .row 3 1 v2 x2.length (ints x2) :: R))
    (h1 : k ≤ k') (h2 : k' ≤ k + 3000) (hx : x1.length ≤ 26 ∧ x2.length ≤ 26) (hm : m = 0 → kd = kind ∧ (kind = 1 → ∃ A : Nat, r1 = A ∧ 1 ≤ A ∧ A ≤ 3)) : DrawsLy R g v k kind m w0 (.returned (.agg #[.int .i64 kd, u])) w :=
  ⟨u, kd, [(v1, ⟨r1, c1, x1⟩), (v2, ⟨r2, c2, x2⟩)], k', rfl, h1, h2, ⟨by simp, by simpa using hx⟩, fun h => ⟨(hm h).1, fun hk => by
    obtain ⟨A, ha, hb⟩ := (hm h).2 hk
    exact ⟨_, _, A, rfl, ha, hb⟩⟩, T⟩
theorem C_l20LayerOne (R : List Ent) (gr : Nat) (v : Value) (k : Int) (A B : Nat) (w0 w1 : World) (hAB : (1 ≤ A ∧ A ≤ 5) ∧ 1 ≤ B ∧ B ≤ 5) (S0 : St w0 w1 (.box gr 143 [v, .int .i64 k] :: R)) (hB : Bytes w0 v) (hk : 0 ≤ k ∧ k ≤ 400000000) :
    Calls Tryz.prog 158 #[.pointer (some ⟨gr, 0, none⟩), .int .i64 1, .int .i64 A, .int .i64 B, .int .i64 0] w1 (DrawsLy R gr v k 1 0 w0) := by
  have HB := Lib.hid hB
  obtain ⟨k1, k2⟩ := hk
  obtain ⟨⟨A1, A2⟩, B1, B2⟩ := hAB
  clear hB
  obtain ⟨L, HL, S⟩ := st_name S0
  clear S0
  replace HL := Lib.hid HL
  have F := factsAll HL S
  simp only [factsOf, cellsFrom, and_true, true_and, Nat.reduceAdd] at F
  go_enter Tryz.func158, Tryz.ntmps158
  go_upto_region 1 with (first | (refine qal HL S zLy ?_; clear F S HL; intro g10 w L HL S F))
  go_upto_region 4 with (first | (refine qal HL S zLy ?_; clear F S HL; intro g11 w L HL S F) | (refine qst HL S 0 ?_; clear F S HL; intro w L HL S F))
  go_upto_region 5 with (first | ((go_at_call 63; refine (C_pick _ _ _ _ _ w0 _ (S.front qAt) HB.out ⟨by omega, by omega⟩).mono ?_; rintro e w ⟨y, rfl, hy0, T0⟩; obtain ⟨L, hM, T⟩ := st_name T0; clear T0; clear F S; (try rw [HL.out] at hM); clear HL; (try simp only [List.eraseIdx_cons_zero, List.eraseIdx_cons_succ] at hM); have HL := Lib.hid hM; clear hM; have S := T; clear T; have F := qFc HL S); have hy := hy0 (by omega); clear hy0; obtain ⟨j, hj⟩ : ∃ j : Nat, 1 + y = (j : Int) := ⟨(1 + y).toNat, by omega⟩))
  have j1 : 1 ≤ j := by omega
  have j2 : j ≤ 3 := by omega
  go_upto_region 8 with (first | ((go_at_call 108; refine (C_l20MatrixG _ _ _ _ _ _ _ w0 _ ⟨⟨by omega, by omega⟩, by omega, by omega⟩ (by omega) (S.front qAt) HB.out ⟨by omega, by omega⟩).mono ?_; rintro e w ⟨u3, mr, mc, xs3, k3, rfl, hxl3, hk5, hk6, hrc3, T0⟩; obtain ⟨L, hM, T⟩ := st_name T0; clear T0; clear F S; (try rw [HL.out] at hM); clear HL; (try simp only [List.eraseIdx_cons_zero, List.eraseIdx_cons_succ] at hM); have HL := Lib.hid hM; clear hM; have S := T; clear T; have F := qFc HL S); obtain ⟨A', cap', rfl, hcap', hmax'⟩ := qSl HL S 0; obtain ⟨rfl, rfl, hxn, hall⟩ := hrc3 rfl; clear hrc3 hxn hall) | ((go_at_call 108; refine (C_l20MatrixG _ _ _ _ _ _ 1 w0 _ ⟨⟨by omega, by omega⟩, by omega, by omega⟩ (by omega) (S.front qAt) HB.out ⟨by omega, by omega⟩).mono ?_; rintro e w ⟨u3, mr, mc, xs3, k3, rfl, hxl3, hk5, hk6, hrc3, T0⟩; obtain ⟨L, hM, T⟩ := st_name T0; clear T0; clear F S; (try rw [HL.out] at hM); clear HL; (try simp only [List.eraseIdx_cons_zero, List.eraseIdx_cons_succ] at hM); have HL := Lib.hid hM; clear hM; have S := T; clear T; have F := qFc HL S); obtain ⟨A', cap', rfl, hcap', hmax'⟩ := qSl HL S 0; obtain ⟨rfl, rfl, hxn, hall⟩ := hrc3 rfl; clear hrc3 hxn hall) | (refine wpList_lit33 rfl S _ _ _ rfl 30 Tryz.underlying49 infoMx _ _ _ _ _ _ rfl rfl ?_; clear F S; intro g w L hM S; replace HL := qNm HL hM; clear hM; have F := qFc HL S) | (refine qst HL S 3 ?_; clear F S HL; intro w L HL S F) | (refine qst HL S 4 ?_; clear F S HL; intro w L HL S F) | (refine qst HL S 5 ?_; clear F S HL; intro w L HL S F))
  go_wp2_with (first | (go_at_call 65; refine (C_odd0 _ _ _ _ w0 _ (S.front qAt)).mono ?_; rintro e w ⟨rfl, T0⟩; obtain ⟨L, hM, T⟩ := st_name T0; clear T0; clear F S; (try rw [HL.out] at hM); clear HL; (try simp only [List.eraseIdx_cons_zero, List.eraseIdx_cons_succ] at hM); have HL := Lib.hid hM; clear hM; have S := T; clear T; have F := qFc HL S) | (refine qst HL S 4 ?_; clear F S HL; intro w L HL S F) | (refine qst HL S 5 ?_; clear F S HL; intro w L HL S F))
  ((try simp only [Exit.inBlock, Exit.then]); refine ret1 rfl (resCell S HL 5 rfl rfl (by kernel_rfl)) rfl ?_)
  rw [HL.out] at S
  have T := S.asRow (p := 1) (size := 3) (n := 2) rfl rfl (by simp [maxLen])
  simp only [List.set_cons_zero, List.set_cons_succ] at T
  have T1 := T.front (p := 2) (show At _ 2 _ from rfl)
  simp only [List.eraseIdx_cons_succ, List.eraseIdx_cons_zero] at T1
  have T2 := T1.front (p := 3) (show At _ 3 _ from rfl)
  simp only [List.eraseIdx_cons_succ, List.eraseIdx_cons_zero] at T2
  have T3 := T2.front (p := 3) (show At _ 3 _ from rfl)
  simp only [List.eraseIdx_cons_succ, List.eraseIdx_cons_zero] at T3
  have T4 := T3.front (p := 3) (show At _ 3 _ from rfl)
  simp only [List.eraseIdx_cons_succ, List.eraseIdx_cons_zero] at T4
  exact drawsLy_two (T4.sub (.cons_cons _ (.cons_cons _ (.cons_cons _ (.cons_cons _ (.cons _ (.cons _ (.refl _)))))))) (by omega) (by omega) (by omega) fun _ => ⟨rfl, fun _ => ⟨j, rfl, j1, j2⟩⟩
theorem C_l20LayerTwo (R : List Ent) (gr : Nat) (v : Value) (k : Int) (A B : Nat) (w0 w1 : World) (hAB : (1 ≤ A ∧ A ≤ 5) ∧ 1 ≤ B ∧ B ≤ 5) (S0 : St w0 w1 (.box gr 143 [v, .int .i64 k] :: R)) (hB : Bytes w0 v) (hk : 0 ≤ k ∧ k ≤ 400000000) :
    Calls Tryz.prog 158 #[.pointer (some ⟨gr, 0, none⟩), .int .i64 2, .int .i64 A, .int .i64 B, .int .i64 0] w1 (DrawsLy R gr v k 2 0 w0) := by
  have HB := Lib.hid hB
  obtain ⟨k1, k2⟩ := hk
  obtain ⟨⟨A1, A2⟩, B1, B2⟩ := hAB
  clear hB
  obtain ⟨L, HL, S⟩ := st_name S0
  clear S0
  replace HL := Lib.hid HL
  have F := factsAll HL S
  simp only [factsOf, cellsFrom, and_true, true_and, Nat.reduceAdd] at F
  go_enter Tryz.func158, Tryz.ntmps158
  go_upto_region 1 with (first | (refine qal HL S zLy ?_; clear F S HL; intro g10 w L HL S F))
  go_upto_region 3 with (first | (refine qal HL S zLy ?_; clear F S HL; intro g11 w L HL S F) | (refine qst HL S 0 ?_; clear F S HL; intro w L HL S F))
  go_wp2_with (first | (go_at_call 65; refine (C_odd0 _ _ _ _ w0 _ (S.front qAt)).mono ?_; rintro e w ⟨rfl, T0⟩; obtain ⟨L, hM, T⟩ := st_name T0; clear T0; clear F S; (try rw [HL.out] at hM); clear HL; (try simp only [List.eraseIdx_cons_zero, List.eraseIdx_cons_succ] at hM); have HL := Lib.hid hM; clear hM; have S := T; clear T; have F := qFc HL S) | (refine qst HL S 1 ?_; clear F S HL; intro w L HL S F) | (refine qst HL S 2 ?_; clear F S HL; intro w L HL S F))
  ((try simp only [Exit.inBlock, Exit.then]); refine ret1 rfl (resCell S HL 2 rfl rfl (by kernel_rfl)) rfl ?_)
  rw [HL.out] at S
  have T := (S.nilRow 30 3).front (p := 1) (show At _ 1 _ from rfl)
  simp only [List.eraseIdx_cons_succ, List.eraseIdx_cons_zero] at T
  exact ⟨_, _, [], k, rfl, by omega, by omega, ⟨by simp, by simp⟩, fun _ => ⟨rfl, fun h => absurd h (by omega)⟩, T.sub (.cons_cons _ (.cons_cons _ (.cons _ (.cons _ (.refl _)))))⟩
theorem drawsLy_three {R : List Ent} {g : Nat} {v : Value} {k kind m : Int} {w0 w : World} {kd k' : Int} {u v1 v2 v3 : Value} {r1 c1 r2 c2 r3 c3 : Int} {x1 x2 x3 : List Int}
    (T : St w0 w (.box g 143 [v, .int .i64 k'] :: .row 30 3 u 3 [.int .i64 r1, .int .i64 c1, v1, .int .i64 r2, .int .i64 c2, v2, .int .i64 r3, .int .i64 c3, v3] :: .row 3 1 v1 x1.length (ints x1) :: .row 3 1 v2 x2.length (ints x2) :: .row 3 1 v3 x3.length (ints x3) :: R))
    (h1 : k ≤ k') (h2 : k' ≤ k + 3000) (hx : x1.length ≤ 26 ∧ x2.length ≤ 26 ∧ x3.length ≤ 26) (hm : m = 0 → kd = kind ∧ ¬ kind = 1) : DrawsLy R g v k kind m w0 (.returned (.agg #[.int .i64 kd, u])) w :=
  ⟨u, kd, [(v1, ⟨r1, c1, x1⟩), (v2, ⟨r2, c2, x2⟩), (v3, ⟨r3, c3, x3⟩)], k', rfl, h1, h2, ⟨by simp, by simpa using hx⟩, fun h => ⟨(hm h).1, fun hk => absurd hk (hm h).2⟩, T⟩
theorem C_l20LayerThree (R : List Ent) (gr : Nat) (v : Value) (k : Int) (A B : Nat) (w0 w1 : World) (hAB : (1 ≤ A ∧ A ≤ 5) ∧ 1 ≤ B ∧ B ≤ 5) (S0 : St w0 w1 (.box gr 143 [v, .int .i64 k] :: R)) (hB : Bytes w0 v) (hk : 0 ≤ k ∧ k ≤ 400000000) :
    Calls Tryz.prog 158 #[.pointer (some ⟨gr, 0, none⟩), .int .i64 3, .int .i64 A, .int .i64 B, .int .i64 0] w1 (DrawsLy R gr v k 3 0 w0) := by
  have HB := Lib.hid hB
  obtain ⟨k1, k2⟩ := hk
  obtain ⟨⟨A1, A2⟩, B1, B2⟩ := hAB
  clear hB
  obtain ⟨L, HL, S⟩ := st_name S0
  clear S0
  replace HL := Lib.hid HL
  have F := factsAll HL S
  simp only [factsOf, cellsFrom, and_true, true_and, Nat.reduceAdd] at F
  go_enter Tryz.func158, Tryz.ntmps158
  go_upto_region 1 with (first | (refine qal HL S zLy ?_; clear F S HL; intro g10 w L HL S F))
  go_upto_region 3 with (first | (refine qal HL S zLy ?_; clear F S HL; intro g11 w L HL S F) | (refine qst HL S 0 ?_; clear F S HL; intro w L HL S F))
  go_upto_region 8 with (first | ((go_at_call 108; refine (C_l20MatrixG _ _ _ _ _ _ _ w0 _ ⟨⟨by omega, by omega⟩, by omega, by omega⟩ (by omega) (S.front qAt) HB.out ⟨by omega, by omega⟩).mono ?_; rintro e w ⟨u3, mr, mc, xs3, k3, rfl, hxl3, hk5, hk6, hrc3, T0⟩; obtain ⟨L, hM, T⟩ := st_name T0; clear T0; clear F S; (try rw [HL.out] at hM); clear HL; (try simp only [List.eraseIdx_cons_zero, List.eraseIdx_cons_succ] at hM); have HL := Lib.hid hM; clear hM; have S := T; clear T; have F := qFc HL S); obtain ⟨A', cap', rfl, hcap', hmax'⟩ := qSl HL S 0; obtain ⟨rfl, rfl, hxn, hall⟩ := hrc3 rfl; clear hrc3 hxn hall) | (refine wpList_lit333 rfl S _ _ _ _ rfl 30 Tryz.underlying49 infoMx _ _ _ _ _ _ _ _ _ rfl rfl rfl ?_; clear F S; intro g w L hM S; replace HL := qNm HL hM; clear hM; have F := qFc HL S) | (refine qst HL S 3 ?_; clear F S HL; intro w L HL S F) | (refine qst HL S 4 ?_; clear F S HL; intro w L HL S F) | (refine qst HL S 5 ?_; clear F S HL; intro w L HL S F) | (refine qst HL S 6 ?_; clear F S HL; intro w L HL S F))
  go_wp2_with (first | (go_at_call 65; refine (C_odd0 _ _ _ _ w0 _ (S.front qAt)).mono ?_; rintro e w ⟨rfl, T0⟩; obtain ⟨L, hM, T⟩ := st_name T0; clear T0; clear F S; (try rw [HL.out] at hM); clear HL; (try simp only [List.eraseIdx_cons_zero, List.eraseIdx_cons_succ] at hM); have HL := Lib.hid hM; clear hM; have S := T; clear T; have F := qFc HL S) | (refine qst HL S 5 ?_; clear F S HL; intro w L HL S F) | (refine qst HL S 6 ?_; clear F S HL; intro w L HL S F))
  ((try simp only [Exit.inBlock, Exit.then]); refine ret1 rfl (resCell S HL 6 rfl rfl (by kernel_rfl)) rfl ?_)
  rw [HL.out] at S
  have T := S.asRow (p := 1) (size := 3) (n := 3) rfl rfl (by simp [maxLen])
  simp only [List.set_cons_zero, List.set_cons_succ] at T
  have T1 := T.front (p := 2) (show At _ 2 _ from rfl)
  simp only [List.eraseIdx_cons_succ, List.eraseIdx_cons_zero] at T1
  have T2 := T1.front (p := 3) (show At _ 3 _ from rfl)
  simp only [List.eraseIdx_cons_succ, List.eraseIdx_cons_zero] at T2
  have T3 := T2.front (p := 4) (show At _ 4 _ from rfl)
  simp only [List.eraseIdx_cons_succ, List.eraseIdx_cons_zero] at T3
  have T4 := T3.front (p := 4) (show At _ 4 _ from rfl)
  simp only [List.eraseIdx_cons_succ, List.eraseIdx_cons_zero] at T4
  have T5 := T4.front (p := 4) (show At _ 4 _ from rfl)
  simp only [List.eraseIdx_cons_succ, List.eraseIdx_cons_zero] at T5
  exact drawsLy_three (T5.sub (.cons_cons _ (.cons_cons _ (.cons_cons _ (.cons_cons _ (.cons_cons _ (.cons _ (.cons _ (.refl _))))))))) (by omega) (by omega) (by omega) fun _ => ⟨rfl, by omega⟩
theorem drawsLy_one {R : List Ent} {g : Nat} {v : Value} {k kind m : Int} {w0 w : World} {kd k' : Int} {u v1 : Value} {r1 c1 : Int} {x1 : List Int}
    (T : St w0 w (.box g 143 [v, .int .i64 k'] :: .row 30 3 u 1 [.int .i64 r1, .int .i64 c1, v1] :: .row 3 1 v1 x1.length (ints x1) :: R))
    (h1 : k ≤ k') (h2 : k' ≤ k + 3000) (hx : x1.length ≤ 26) (hm : ¬ m = 0) : DrawsLy R g v k kind m w0 (.returned (.agg #[.int .i64 kd, u])) w :=
  ⟨u, kd, [(v1, ⟨r1, c1, x1⟩)], k', rfl, h1, h2, ⟨by simp, by simpa using hx⟩, fun h => absurd h hm, T⟩
section
variable {P : Program} {w0 w : World} {a : Act} {L : List Ent} {o : Oper} {K : Act → World → Prop} {Q : Exit → Act → World → Prop}
theorem wp_lit3 (S : St w0 w L) (t : TypeId) (x : Operand) (ho : o.op = .buildSlice t 1 #[(0, x)])
    (e : TypeId) (ht : P.underlying t = some (.slice e)) {z : Value} {bytes : Nat} (hi : (P.info? e).map (fun i => (i.zero, i.size, i.bytes)) = some (some z, 3, bytes))
    (c0 c1 c2 : Value) (hx : a.eval x = .agg #[c0, c1, c2])
    (h : ∀ g w' M, M = .box g e [c0, c1, c2] :: L → St w0 w' M → K (a.put o.dst (.slice (some ⟨g, 0, none⟩) 1 1)) w') : o.wp P a w K Q := by
  obtain ⟨i, hi0, hz0, hz1, hz2⟩ := info_parts hi
  refine Go.wp_buildSlice t e 1 _ ho #[c0, c1, c2] i z ht hi0 hz0 (by rw [hz1]; omega) (by rw [hz1]; omega) ?_ (h _ _ _ rfl (S.new e _))
  rw [hz1, Array.toList_map]
  show Instr.fill _ _ [(0, a.eval x)] = _
  rw [hx]
  exact fill3 _ (by simp) _ _ _
end
theorem C_l20LayerOdd (R : List Ent) (gr : Nat) (v : Value) (k : Int) (A B : Nat) (w0 w1 : World) (hAB : (1 ≤ A ∧ A ≤ 5) ∧ 1 ≤ B ∧ B ≤ 5) (S0 : St w0 w1 (.box gr 143 [v, .int .i64 k] :: R)) (hB : Bytes w0 v) (hk : 0 ≤ k ∧ k ≤ 400000000) :
    Calls Tryz.prog 158 #[.pointer (some ⟨gr, 0, none⟩), .int .i64 1, .int .i64 A, .int .i64 B, .int .i64 1] w1 (DrawsLy R gr v k 1 1 w0) := by
  have HB := Lib.hid hB
  obtain ⟨k1, k2⟩ := hk
  obtain ⟨⟨A1, A2⟩, B1, B2⟩ := hAB
  clear hB
  obtain ⟨L, HL, S⟩ := st_name S0
  clear S0
  replace HL := Lib.hid HL
  have F := factsAll HL S
  simp only [factsOf, cellsFrom, and_true, true_and, Nat.reduceAdd] at F
  go_enter Tryz.func158, Tryz.ntmps158
  go_upto_region 1 with (first | (refine qal HL S zLy ?_; clear F S HL; intro g10 w L HL S F))
  go_upto_region 4 with (first | (refine qal HL S zLy ?_; clear F S HL; intro g11 w L HL S F) | (refine qst HL S 0 ?_; clear F S HL; intro w L HL S F))
  go_upto_region 5 with (first | ((go_at_call 63; refine (C_pick _ _ _ _ _ w0 _ (S.front qAt) HB.out ⟨by omega, by omega⟩).mono ?_; rintro e w ⟨y, rfl, hy0, T0⟩; obtain ⟨L, hM, T⟩ := st_name T0; clear T0; clear F S; (try rw [HL.out] at hM); clear HL; (try simp only [List.eraseIdx_cons_zero, List.eraseIdx_cons_succ] at hM); have HL := Lib.hid hM; clear hM; have S := T; clear T; have F := qFc HL S); have hy := hy0 (by omega); clear hy0; obtain ⟨j, hj⟩ : ∃ j : Nat, 1 + y = (j : Int) := ⟨(1 + y).toNat, by omega⟩))
  have j1 : 1 ≤ j := by omega
  have j2 : j ≤ 3 := by omega
  go_upto_region 8 with (first | ((go_at_call 108; refine (C_l20MatrixG _ _ _ _ _ _ _ w0 _ ⟨⟨by omega, by omega⟩, by omega, by omega⟩ (by omega) (S.front qAt) HB.out ⟨by omega, by omega⟩).mono ?_; rintro e w ⟨u3, mr, mc, xs3, k3, rfl, hxl3, hk5, hk6, hrc3, T0⟩; obtain ⟨L, hM, T⟩ := st_name T0; clear T0; clear F S; (try rw [HL.out] at hM); clear HL; (try simp only [List.eraseIdx_cons_zero, List.eraseIdx_cons_succ] at hM); have HL := Lib.hid hM; clear hM; have S := T; clear T; have F := qFc HL S); obtain ⟨A', cap', rfl, hcap', hmax'⟩ := qSl HL S 0; obtain ⟨rfl, rfl, hxn, hall⟩ := hrc3 rfl; clear hrc3 hxn hall) | ((go_at_call 108; refine (C_l20MatrixG _ _ _ _ _ _ 1 w0 _ ⟨⟨by omega, by omega⟩, by omega, by omega⟩ (by omega) (S.front qAt) HB.out ⟨by omega, by omega⟩).mono ?_; rintro e w ⟨u3, mr, mc, xs3, k3, rfl, hxl3, hk5, hk6, hrc3, T0⟩; obtain ⟨L, hM, T⟩ := st_name T0; clear T0; clear F S; (try rw [HL.out] at hM); clear HL; (try simp only [List.eraseIdx_cons_zero, List.eraseIdx_cons_succ] at hM); have HL := Lib.hid hM; clear hM; have S := T; clear T; have F := qFc HL S); obtain ⟨A', cap', rfl, hcap', hmax'⟩ := qSl HL S 0; obtain ⟨rfl, rfl, hxn, hall⟩ := hrc3 rfl; clear hrc3 hxn hall) | (refine wpList_lit33 rfl S _ _ _ rfl 30 Tryz.underlying49 infoMx _ _ _ _ _ _ rfl rfl ?_; clear F S; intro g w L hM S; replace HL := qNm HL hM; clear hM; have F := qFc HL S) | (refine qst HL S 3 ?_; clear F S HL; intro w L HL S F) | (refine qst HL S 4 ?_; clear F S HL; intro w L HL S F) | (refine qst HL S 5 ?_; clear F S HL; intro w L HL S F))
  rw [HL.out] at S
  have T := S.asRow (p := 0) (size := 3) (n := 2) rfl rfl (by simp [maxLen])
  simp only [List.set_cons_zero, List.set_cons_succ] at T
  have T1 := T.front (p := 1) (show At _ 1 _ from rfl)
  simp only [List.eraseIdx_cons_succ, List.eraseIdx_cons_zero] at T1
  have T2 := T1.front (p := 3) (show At _ 3 _ from rfl)
  simp only [List.eraseIdx_cons_succ, List.eraseIdx_cons_zero] at T2
  have T3 := T2.front (p := 2) (show At _ 2 _ from rfl)
  simp only [List.eraseIdx_cons_succ, List.eraseIdx_cons_zero] at T3
  have T4 := T3.front (p := 3) (show At _ 3 _ from rfl)
  simp only [List.eraseIdx_cons_succ, List.eraseIdx_cons_zero] at T4
  clear S HL F T T1 T2 T3
  have S := T4
  clear T4
  obtain ⟨L, hM, T⟩ := st_name S; clear S; have S := T; clear T; have HL := Lib.hid hM; clear hM; have F := qFc HL S
  go_wp2_with (first | (go_at_call 65; refine (C_odd _ _ _ _ _ w0 _ (S.front qAt) HB.out ⟨by omega, by omega⟩).mono ?_; rintro e w ⟨y, k', rfl, hk1, hk2, T0⟩; obtain ⟨L, hM, T⟩ := st_name T0; clear T0; clear F S; (try rw [HL.out] at hM); clear HL; (try simp only [List.eraseIdx_cons_zero, List.eraseIdx_cons_succ] at hM); have HL := Lib.hid hM; clear hM; have S := T; clear T; have F := qFc HL S) | ((go_at_call 63; refine (C_pick _ _ _ _ _ w0 _ (S.front qAt) HB.out ⟨by omega, by omega⟩).mono ?_; rintro e w ⟨y, rfl, hy0, T0⟩; obtain ⟨L, hM, T⟩ := st_name T0; clear T0; clear F S; (try rw [HL.out] at hM); clear HL; (try simp only [List.eraseIdx_cons_zero, List.eraseIdx_cons_succ] at hM); have HL := Lib.hid hM; clear hM; have S := T; clear T; have F := qFc HL S); have hy := hy0 (by omega); clear hy0) | (refine wpList_lit rfl S _ _ _ rfl 3 Tryz.underlying23 infoInt (by simp [Act.eval]) (by simp [Act.eval, Value.oneCell']) rfl rfl rfl ?_; clear F S; intro g w L hM S; replace HL := qNm HL hM; clear hM; have F := qFc HL S) | (first | (refine wpList_load_lit rfl S _ _ rfl Tryz.underlying3 1 _ _ _ _ (atOf HL rfl) rfl (by simp) (by simp; omega) ?_; intro q hq; clear hq) | (refine wpList_load_lit rfl S _ _ rfl Tryz.underlying3 2 _ _ _ _ (atOf HL rfl) rfl (by simp) (by simp; omega) ?_; intro q hq; clear hq) | (refine wpList_load_lit rfl S _ _ rfl Tryz.underlying3 3 _ _ _ _ (atOf HL rfl) rfl (by simp) (by simp; omega) ?_; intro q hq; clear hq)) | ((go_at_call 108; refine (C_l20MatrixG _ _ _ _ _ 2 2 w0 _ ⟨⟨by omega, by omega⟩, by omega, by omega⟩ (by omega) (S.front qAt) HB.out ⟨by omega, by omega⟩).mono ?_; rintro e w ⟨u4, mr, mc, xs4, k4, rfl, hxl4, hk7, hk8, hrc4, T0⟩; obtain ⟨L, hM, T⟩ := st_name T0; clear T0; clear F S; (try rw [HL.out] at hM); clear HL; (try simp only [List.eraseIdx_cons_zero, List.eraseIdx_cons_succ] at hM); have HL := Lib.hid hM; clear hM; have S := T; clear T; have F := qFc HL S); clear hrc4; obtain ⟨A', cap', rfl, hcap', hmax'⟩ := qSl HL S 0) | (refine wpList_lit3 rfl S _ _ rfl 30 Tryz.underlying49 infoMx _ _ _ rfl ?_; clear F S; intro g' w L hM S; replace HL := qNm HL hM; clear hM; have F := qFc HL S) | (refine qst HL S 4 ?_; clear F S HL; intro w L HL S F) | (refine qst HL S 5 ?_; clear F S HL; intro w L HL S F) | (refine qst HL S 6 ?_; clear F S HL; intro w L HL S F) | (refine qst HL S 7 ?_; clear F S HL; intro w L HL S F))
  · ((try simp only [Exit.inBlock, Exit.then]); refine ret1 rfl (resCell S HL 6 rfl rfl (by kernel_rfl)) rfl ?_)
    rw [HL.out] at S
    exact drawsLy_two (S.sub (.cons_cons _ (.cons _ (.cons_cons _ (.cons_cons _ (.cons_cons _ (.cons _ (.cons _ (.refl _))))))))) (by omega) (by omega) (by omega) fun h => absurd h (by omega)
  · have hT := congrArg (List.drop 2) HL.out; simp only [List.drop_succ_cons, List.drop_zero] at hT; obtain ⟨L1, hL1⟩ : ∃ M, M = L.drop 2 := ⟨_, rfl⟩; rw [← hL1] at hT; have HL0 := Lib.hid hT; have S1 := S.sub (List.drop_sublist 2 L); rw [← hL1] at S1; have F0 := qFc HL0 S1; clear S1 hL1 hT; refine wp_region_tree (S := fun w' => St w0 w' L1) (.calm 0 (.calm 1 (.calm 2 (.act 3 (.act 4 (.act 5 (.calm 6 (.act 7 .fin .stop)) .stop) .stop) .stop)))) (by kernel_rfl) (by kernel_rfl) (by kernel_rfl) (by intro c a d v w h; cases d <;> exact h) ?_; replace S := S.drew
    repeat (first | refine qCa ?_ | refine qAn ?_ | refine qSk ?_ | (refine tree_act rfl rfl ?_ tree_stop; intro K hK; (refine wp_lit3 S _ _ rfl 30 Tryz.underlying49 infoMx _ _ _ rfl ?_; clear F S; intro g' w L hM S; replace HL := qNm HL hM; clear hM; have F := qFc HL S); (refine qKo hK ?_; clear hK K)) | (refine tree_act rfl rfl ?_ tree_stop; intro K hK; (refine wp_append_box S _ _ _ rfl 30 _ 3 40 Tryz.underlying49 infoMx rfl (by omega) _ _ _ _ rfl qAt (by omega) _ _ _ _ _ _ rfl qAt rfl rfl rfl rfl ?_; clear F S; intro u' w L hM S; replace HL := qNm HL hM; clear hM; have F := qFc HL S; obtain ⟨A', cap', rfl, hcap', hmax'⟩ := qSl HL S 3); (refine qKo hK ?_; clear hK K)) | (refine tree_act rfl rfl ?_ tree_stop; intro K hK; (refine qsw HL S 6 ?_; clear F S HL; intro w L HL S F); (refine qKo hK ?_; clear hK K)) | (refine tree_act rfl rfl ?_ tree_stop; intro K hK; go_wp2_with (first | ((go_at_call 108; refine (C_l20MatrixG _ _ _ _ _ 1 1 w0 _ ⟨⟨by omega, by omega⟩, by omega, by omega⟩ (by omega) (S.front qAt) HB.out ⟨by omega, by omega⟩).mono ?_; rintro e w ⟨u4, mr, mc, xs4, k4, rfl, hxl4, hk7, hk8, hrc4, T0⟩; obtain ⟨L, hM, T⟩ := st_name T0; clear T0; clear F S; (try rw [HL.out] at hM); clear HL; (try simp only [List.eraseIdx_cons_zero, List.eraseIdx_cons_succ] at hM); have HL := Lib.hid hM; clear hM; have S := T; clear T; have F := qFc HL S); clear hrc4; obtain ⟨A', cap', rfl, hcap', hmax'⟩ := qSl HL S 0)); (refine qKo hK ?_; clear hK K)))
    refine tree_fin ?_
    clear HL0 F0
    go_wp2_with (first | (refine qst HL S 7 ?_; clear F S HL; intro w L HL S F))
    ((try simp only [Exit.inBlock, Exit.then]); refine ret1 rfl (resCell S HL 7 rfl rfl (by kernel_rfl)) rfl ?_)
    rw [HL.out] at S
    have T1 := S.front (p := 1) (show At _ 1 _ from rfl)
    simp only [List.eraseIdx_cons_succ, List.eraseIdx_cons_zero] at T1
    have T2 := T1.front (p := 5) (show At _ 5 _ from rfl)
    simp only [List.eraseIdx_cons_succ, List.eraseIdx_cons_zero] at T2
    have T3 := T2.front (p := 5) (show At _ 5 _ from rfl)
    simp only [List.eraseIdx_cons_succ, List.eraseIdx_cons_zero] at T3
    have T4 := T3.front (p := 5) (show At _ 5 _ from rfl)
    simp only [List.eraseIdx_cons_succ, List.eraseIdx_cons_zero] at T4
    have T5 := T4.front (p := 5) (show At _ 5 _ from rfl)
    simp only [List.eraseIdx_cons_succ, List.eraseIdx_cons_zero] at T5
    exact drawsLy_three (T5.sub (.cons_cons _ (.cons_cons _ (.cons_cons _ (.cons_cons _ (.cons_cons _ (.cons _ (.cons _ (.cons _ (.refl _)))))))))) (by omega) (by omega) (by omega) fun h => absurd h (by omega)
  · ((try simp only [Exit.inBlock, Exit.then]); refine ret1 rfl (resCell S HL 7 rfl rfl (by kernel_rfl)) rfl ?_)
    rw [HL.out] at S
    have T := S.asRow (p := 0) (size := 3) (n := 1) rfl rfl (by simp [maxLen])
    simp only [List.set_cons_zero, List.set_cons_succ] at T
    have T1 := T.front (p := 2) (show At _ 2 _ from rfl)
    simp only [List.eraseIdx_cons_succ, List.eraseIdx_cons_zero] at T1
    exact drawsLy_one (T1.sub (.cons_cons _ (.cons_cons _ (.cons_cons _ (.cons _ (.cons _ (.cons _ (.cons _ (.cons _ (.refl _)))))))))) (by omega) (by omega) (by omega) (by omega)
  · ((try simp only [Exit.inBlock, Exit.then]); refine ret1 rfl (resCell S HL 5 rfl rfl (by kernel_rfl)) rfl ?_)
    rw [HL.out] at S
    have T := (S.nilRow 30 3).front (p := 1) (show At _ 1 _ from rfl)
    simp only [List.eraseIdx_cons_succ, List.eraseIdx_cons_zero] at T
    exact ⟨_, _, [], k' + 1 + 1, rfl, by omega, by omega, ⟨by simp, by simp⟩, fun h => absurd h (by omega), T.sub (.cons_cons _ (.cons_cons _ (.cons _ (.cons _ (.cons _ (.cons _ (.cons _ (.refl _))))))))⟩
  · ((try simp only [Exit.inBlock, Exit.then]); refine ret1 rfl (resCell S HL 5 rfl rfl (by kernel_rfl)) rfl ?_)
    rw [HL.out] at S
    exact drawsLy_two (S.sub (.cons_cons _ (.cons_cons _ (.cons_cons _ (.cons_cons _ (.cons _ (.cons _ (.refl _)))))))) (by omega) (by omega) (by omega) fun h => absurd h (by omega)
section
variable {P : Program} {w0 w : World} {a : Act} {L : List Ent} {o : Oper} {ops : Array Oper} {rest : List Oper} {Q : Exit → Act → World → Prop}
theorem wpList_litL (hgd : o.guard = none) (S : St w0 w L) (t : TypeId) (x : Operand) (ho : o.op = .buildSlice t 1 #[(0, x)])
    (e : TypeId) (ht : P.underlying t = some (.slice e)) {z : Value} {bytes : Nat} (hi : (P.info? e).map (fun i => (i.zero, i.size, i.bytes)) = some (some z, 2, bytes))
    (c0 c1 : Value) (hx : a.eval x = .agg #[c0, c1])
    (h : ∀ g w' M, M = .box g e [c0, c1] :: L → St w0 w' M → wpList P ops Q rest (a.put o.dst (.slice (some ⟨g, 0, none⟩) 1 1)) w') : wpList P ops Q (o :: rest) a w :=
  wpList_litS hgd S t 1 _ ho e ht hi #[c0, c1] (fun C hC => by
    show Instr.fill _ C [(0, a.eval x)] = _
    rw [hx]; exact fill2 C hC _ _) (by omega) (by omega) h
end
def DrawsLyQ (R : List Ent) (g : Nat) (v : Value) (k : Int) (q : Int) (m : Int) (w0 : World) (e : Ending) (w' : World) : Prop :=
  ∃ (u : Value) (kd : Int) (ps : MsO) (k' : Int), e = .returned (.agg #[.int .i64 kd, u]) ∧ k ≤ k' ∧ k' ≤ k + 3000 ∧ (ps.length ≤ 4 ∧ ∀ p ∈ ps, p.2.xs.length ≤ 26) ∧ (m = 0 → kd = q ∧ (q = 1 → ∃ (A : Nat) (x : Value), (cellsM ps)[0]? = some (.int .i64 A) ∧ 0 < ps.length ∧ 1 ≤ A ∧ A ≤ 3)) ∧ St w0 w' (.box g 143 [v, .int .i64 k'] :: .row 30 3 u ps.length (cellsM ps) :: (rowsM ps ++ R))
theorem drawsLyQ {R : List Ent} {g : Nat} {v : Value} {k q m : Int} {w0 : World} {e : Ending} {w' : World} (h : DrawsLy R g v k q m w0 e w') : DrawsLyQ R g v k q m w0 e w' := by
  obtain ⟨u, kd, ps, k', rfl, h1, h2, hf, h3, T⟩ := h
  refine ⟨u, kd, ps, k', rfl, h1, h2, hf, fun hm => ⟨(h3 hm).1, fun hq => ?_⟩, T⟩
  obtain ⟨p, r, A, rfl, ha, hb, hc⟩ := (h3 hm).2 hq
  refine ⟨A, p.1, ?_, by simp, hb, hc⟩
  rw [← ha]
  rfl
theorem C_l20LayerQ (R : List Ent) (gr : Nat) (v : Value) (k q : Int) (A B : Nat) (w0 w1 : World) (hq : q = 1 ∨ q = 1 ∨ q = 2 ∨ q = 3) (hAB : (1 ≤ A ∧ A ≤ 5) ∧ 1 ≤ B ∧ B ≤ 5) (S0 : St w0 w1 (.box gr 143 [v, .int .i64 k] :: R)) (hB : Bytes w0 v) (hk : 0 ≤ k ∧ k ≤ 400000000) :
    Calls Tryz.prog 158 #[.pointer (some ⟨gr, 0, none⟩), .int .i64 q, .int .i64 A, .int .i64 B, .int .i64 0] w1 (DrawsLyQ R gr v k q 0 w0) := by
  have : q = 1 ∨ q = 2 ∨ q = 3 := by omega
  rcases this with rfl | rfl | rfl
  · exact (C_l20LayerOne R gr v k A B w0 w1 hAB S0 hB hk).mono fun e w h => drawsLyQ h
  · exact (C_l20LayerTwo R gr v k A B w0 w1 hAB S0 hB hk).mono fun e w h => drawsLyQ h
  · exact (C_l20LayerThree R gr v k A B w0 w1 hAB S0 hB hk).mono fun e w h => drawsLyQ h
theorem C_l20LayerX (R : List Ent) (gr : Nat) (v : Value) (k : Int) (A B : Nat) (w0 w1 : World) (hAB : (1 ≤ A ∧ A ≤ 5) ∧ 1 ≤ B ∧ B ≤ 5) (S0 : St w0 w1 (.box gr 143 [v, .int .i64 k] :: R)) (hB : Bytes w0 v) (hk : 0 ≤ k ∧ k ≤ 400000000) :
    Calls Tryz.prog 158 #[.pointer (some ⟨gr, 0, none⟩), .int .i64 1, .int .i64 A, .int .i64 B, .int .i64 1] w1 (DrawsLyQ R gr v k 1 1 w0) :=
  (C_l20LayerOdd R gr v k A B w0 w1 hAB S0 hB hk).mono fun e w h => drawsLyQ h
def LyFew (q : Value × Int × MsO) : Prop := q.2.2.length ≤ 4 ∧ ∀ p ∈ q.2.2, p.2.xs.length ≤ 26
def DrawsLs (R : List Ent) (g : Nat) (v : Value) (k : Int) (w0 : World) (e : Ending) (w' : World) : Prop :=
  ∃ (u : Value) (qs : LsO) (k' : Int), e = .returned u ∧ k ≤ k' ∧ k' ≤ k + 20000 ∧ qs.length ≤ 5 ∧ (∀ q ∈ qs, LyFew q) ∧ St w0 w' (.box g 143 [v, .int .i64 k'] :: .row 51 2 u qs.length (cellsL qs) :: (rowsL qs ++ R))
theorem ls_add (qs : LsO) (u : Value) (kd : Int) (ps : MsO) : rowsL (qs ++ [(u, kd, ps)]) = rowsL qs ++ (.row 30 3 u ps.length (cellsM ps) :: rowsM ps) := by
  rw [rowsL_add]
  show rowsL qs ++ (entsM u ps ++ []) = _
  rw [List.append_nil]
  rfl
theorem ls_perm (rd ms ot : Ent) (A B R : List Ent) : (rd :: ms :: ot :: (A ++ (B ++ R))).Perm (rd :: ot :: (B ++ (ms :: A) ++ R)) := by
  refine .cons _ ?_
  refine (List.Perm.swap _ _ _).trans (.cons _ ?_)
  rw [← List.cons_append, ← List.append_assoc]
  exact List.Perm.append_right _ List.perm_append_comm
theorem st_mid {w0 w : World} {rd ms li ot : Ent} {A X : List Ent} (T : St w0 w (rd :: ms :: (A ++ (li :: ot :: X)))) : St w0 w (rd :: ms :: ot :: (A ++ X)) :=
  (T.sub (.cons_cons _ (.cons_cons _ (List.Sublist.append_left (.cons _ (.refl _)) A)))).perm (.cons _ (.cons _ List.perm_middle))
theorem st_add {w0 w : World} {rd : Ent} {R : List Ent} {u u2 : Value} {qs : LsO} {kd : Int} {ps : MsO} {n : Nat} {cs : List Value} (hn : qs.length = n) (hcs : cs = cellsL qs ++ [.int .i64 kd, u2])
    (T : St w0 w (rd :: .row 30 3 u2 ps.length (cellsM ps) :: .row 51 2 u (n + 1) cs :: (rowsM ps ++ (rowsL qs ++ R)))) :
    St w0 w (rd :: .row 51 2 u (qs ++ [(u2, kd, ps)]).length (cellsL (qs ++ [(u2, kd, ps)])) :: (rowsL (qs ++ [(u2, kd, ps)]) ++ R)) := by
  subst hcs hn
  have T2 := T.perm (ls_perm _ _ _ _ _ _)
  rw [ls_add, cellsL_add, List.length_append]
  exact T2
def five : LsO := [(.slice none 0 0, 0, []), (.slice none 0 0, 0, []), (.slice none 0 0, 0, []), (.slice none 0 0, 0, []), (.slice none 0 0, 0, [])]
theorem made5 : (madeCells #[Value.int .i64 0, Value.slice none 0 0] 10).toList = cellsL five := by
  simp [madeCells, cellsL, cellL, five]
  rfl
theorem five_few : ∀ q ∈ five, LyFew q := by
  intro q hq
  simp only [five, List.mem_cons, List.not_mem_nil, or_false, or_self] at hq
  subst hq
  exact ⟨by simp, by simp⟩
theorem few_add {qs : LsO} {q : Value × Int × MsO} (h : ∀ q ∈ qs, LyFew q) (hq : LyFew q) : ∀ x ∈ qs ++ [q], LyFew x := by
  intro x hx
  rcases List.mem_append.1 hx with h1 | h1
  · exact h x h1
  · rw [List.mem_singleton.1 h1]; exact hq
theorem C_l20Net (R : List Ent) (gr : Nat) (v : Value) (k n : Int) (A0 B : Nat) (w0 w1 : World) (hAB : (1 ≤ A0 ∧ A0 ≤ 3) ∧ 1 ≤ B ∧ B ≤ 3) (hn : 0 ≤ n) (S0 : St w0 w1 (.box gr 143 [v, .int .i64 k] :: R)) (hB : Bytes w0 v) (hk : 0 ≤ k ∧ k ≤ 300000000) :
    Calls Tryz.prog 115 #[.pointer (some ⟨gr, 0, none⟩), .int .i64 A0, .int .i64 B, .int .i64 n] w1 (DrawsLs R gr v k w0) := by
  have HB := Lib.hid hB
  obtain ⟨k1, k2⟩ := hk
  obtain ⟨⟨A1, A2⟩, B1, B2⟩ := hAB
  clear hB
  obtain ⟨L, HL, S⟩ := st_name S0
  clear S0
  replace HL := Lib.hid HL
  have F := factsAll HL S
  simp only [factsOf, cellsFrom, and_true, true_and, Nat.reduceAdd] at F
  go_enter Tryz.func115, Tryz.ntmps115
  go_upto_region 2 with (first | (refine wpList_empty rfl S _ rfl 51 Tryz.underlying66 infoLy ?_; clear F S; intro g w L hM S; replace HL := qNm HL hM; clear hM; have F := qFc HL S))
  go_wp2_with (first | ((go_at_call 63; refine (C_pick _ _ _ _ _ w0 _ (S.front qAt) HB.out ⟨by omega, by omega⟩).mono ?_; rintro e w ⟨y, rfl, hy0, T0⟩; obtain ⟨L, hM, T⟩ := st_name T0; clear T0; clear F S; (try rw [HL.out] at hM); clear HL; (try simp only [List.eraseIdx_cons_zero, List.eraseIdx_cons_succ] at hM); have HL := Lib.hid hM; clear hM; have S := T; clear T; have F := qFc HL S); have hy := hy0 (by omega); clear hy0))
  obtain ⟨j0, rfl⟩ : ∃ j : Nat, y = (j : Int) := ⟨y.toNat, by omega⟩
  have hj0 : j0 ≤ 3 := by omega
  clear hy
  rw [HL.out] at S
  have S1 := S.sub (.cons_cons _ (.cons_cons _ (.refl _)))
  clear S HL F
  have S := S1
  clear S1
  obtain ⟨L, hM, T⟩ := st_name S; clear S; have S := T; clear T; have HL := Lib.hid hM; clear hM; have F := qFc HL S
  go_loopw [10, 9, 1] (fun i o r wr => ∃ (j A : Nat) (u : Value) (qs : LsO) (k' : Int) (L : List Ent), i = .int .i64 j ∧ j + qs.length ≤ 3 ∧ o = u ∧ r = .int .i64 A ∧ 1 ≤ A ∧ A ≤ 3 ∧ k ≤ k' ∧ k' ≤ k + 1 + 4000 * qs.length ∧ Hid (∀ q ∈ qs, LyFew q) ∧ Hid (L = .box gr 143 [v, .int .i64 k'] :: .row 51 2 u qs.length (cellsL qs) :: (rowsL qs ++ R)) ∧ St w0 wr L) (fun i _ _ _ => (intOf i).toNat)
  case atStart => exact ⟨j0, A0, _, [], k + 1, L, rfl, by simpa using hj0, rfl, rfl, A1, A2, by omega, by simp, Lib.hid (by simp), HL, S⟩
  case round =>
    clear F HL S
    obtain ⟨j, A, u, qs, k', L, rfl, hq3, rfl, rfl, hA1, hA2, hk3, hk4, HFW, HL, S⟩ := hrel
    have F := factsAll HL S
    simp only [factsOf, cellsFrom, and_true, true_and, Nat.reduceAdd] at F
    obtain ⟨ln, hln⟩ : ∃ ln, qs.length = ln := ⟨_, rfl⟩
    rw [hln] at hq3 hk4 HL
    have HLN := Lib.hid hln
    clear hln
    by_cases hj : 0 < j
    · go_upto_region 6 with (first | (refine wpList_lit rfl S _ _ _ rfl 3 Tryz.underlying23 infoInt (by simp [Act.eval]) (by simp [Act.eval, Value.oneCell']) rfl rfl rfl ?_; clear F S; intro g w L hM S; replace HL := qNm HL hM; clear hM; have F := qFc HL S) | ((go_at_call 63; refine (C_pick _ _ _ _ _ w0 _ (S.front qAt) HB.out ⟨by omega, by omega⟩).mono ?_; rintro e w ⟨y, rfl, hy0, T0⟩; obtain ⟨L, hM, T⟩ := st_name T0; clear T0; clear F S; (try rw [HL.out] at hM); clear HL; (try simp only [List.eraseIdx_cons_zero, List.eraseIdx_cons_succ] at hM); have HL := Lib.hid hM; clear hM; have S := T; clear T; have F := qFc HL S); have hy := hy0 (by omega); clear hy0) | (first | (refine wpList_load_lit rfl S _ _ rfl Tryz.underlying3 1 _ _ _ _ (atOf HL rfl) rfl (by simp) (by simp; omega) ?_; intro q hq; have hq := id hq; simp only [List.mem_cons, Value.int.injEq, true_and, List.not_mem_nil, or_false] at hq) | (refine wpList_load_lit rfl S _ _ rfl Tryz.underlying3 2 _ _ _ _ (atOf HL rfl) rfl (by simp) (by simp; omega) ?_; intro q hq; have hq := id hq; simp only [List.mem_cons, Value.int.injEq, true_and, List.not_mem_nil, or_false] at hq) | (refine wpList_load_lit rfl S _ _ rfl Tryz.underlying3 3 _ _ _ _ (atOf HL rfl) rfl (by simp) (by simp; omega) ?_; intro q hq; have hq := id hq; simp only [List.mem_cons, Value.int.injEq, true_and, List.not_mem_nil, or_false] at hq)))
      go_at_call 158
      refine (C_l20LayerQ _ _ _ _ q A B w0 _ hq ⟨⟨by omega, by omega⟩, by omega, by omega⟩ (S.front (atOf HL (p := 0) rfl)) HB.out ⟨by omega, by omega⟩).mono ?_
      rintro e w ⟨u2, kd, ps, k2, rfl, hk5, hk6, hfw, hm, T0⟩; have HFW2 := Lib.hid (few_add HFW.out (show LyFew (u2, kd, ps) from hfw)); clear hfw
      obtain ⟨rfl, hone⟩ := hm rfl
      rw [HL.out] at T0
      simp only [List.eraseIdx_cons_zero] at T0
      have T1 := st_mid T0
      clear T0 S F HL hm
      have S := T1
      clear T1
      obtain ⟨L, hM, T⟩ := st_name S; clear S; have S := T; clear T; have HL := Lib.hid hM; clear hM; have F := qFc HL S
      obtain ⟨A', cap', rfl, hcap', hmax'⟩ := qSl HL S 1
      go_upto_region 6 with (first | (refine qal HL S zLy ?_; clear F S HL; intro gl w L HL S F) | (refine qst HL S 0 ?_; clear F S HL; intro w L HL S F))
      by_cases h1 : kd = 1
      · subst h1
        obtain ⟨A', x, hc, hp, ha1, ha2⟩ := hone rfl
        obtain ⟨gm, cm, em, hcm, hmm⟩ := S.rowAt (p := 2) (atOf HL rfl) hp
        simp only [Value.slice.injEq, true_and] at em
        obtain ⟨rfl, rfl⟩ := em
        have c0 := (S.rowCell (p := 2) (atOf HL rfl) 0 (by omega)).trans hc
        clear hc hone hq
        unfold maxLen at hmm
        go_wp2_with (first | (refine wpList_litL rfl S _ _ rfl 51 Tryz.underlying66 infoLy _ _ rfl ?_; clear F S; intro g w L hM S; replace HL := qNm HL hM; clear hM; have F := qFc HL S) | (refine wpList_append_box rfl S _ _ _ rfl 51 _ 2 32 Tryz.underlying66 infoLy rfl (by omega) _ _ _ _ rfl qAt (by omega) _ _ _ _ _ _ rfl qAt rfl rfl rfl rfl ?_; clear F S; intro u w L hM S; replace HL := qNm HL hM; clear hM; have F := qFc HL S))
        go_roundw
        case rel =>
          rw [HL.out] at S
          exact ⟨j - 1, A', _, _, k2, _, by congr 1; omega, by rw [List.length_append, HLN.out]; simp; omega, rfl, rfl, by omega, by omega, by omega, by rw [List.length_append, HLN.out]; simp; omega, HFW2, Lib.hid rfl, st_add HLN.out rfl (S.sub (.cons _ (.cons _ (.refl _))))⟩
        case measure => simp [intOf]; omega
      · clear hone
        have HO : Hid (kd = 2 ∨ kd = 3) := Lib.hid (by omega)
        clear hq
        go_wp2_with (first | (refine wpList_litL rfl S _ _ rfl 51 Tryz.underlying66 infoLy _ _ rfl ?_; clear F S; intro g w L hM S; replace HL := qNm HL hM; clear hM; have F := qFc HL S) | (refine wpList_append_box rfl S _ _ _ rfl 51 _ 2 32 Tryz.underlying66 infoLy rfl (by omega) _ _ _ _ rfl qAt (by omega) _ _ _ _ _ _ rfl qAt rfl rfl rfl rfl ?_; clear F S; intro u w L hM S; replace HL := qNm HL hM; clear hM; have F := qFc HL S))
        go_roundw
        case rel =>
          rw [HL.out] at S
          exact ⟨j - 1, A, _, _, k2, _, by congr 1; omega, by rw [List.length_append, HLN.out]; simp; omega, rfl, rfl, by omega, by omega, by omega, by rw [List.length_append, HLN.out]; simp; omega, HFW2, Lib.hid rfl, st_add HLN.out rfl (S.sub (.cons _ (.cons _ (.refl _))))⟩
        case measure => simp [intOf]; omega
    · obtain rfl : j = 0 := by omega
      go_wp2_with (first | (go_at_call 65; refine (C_odd _ _ _ _ _ w0 _ (S.front qAt) HB.out ⟨by omega, by omega⟩).mono ?_; rintro e w ⟨y, k', rfl, hk1, hk2, T0⟩; obtain ⟨L, hM, T⟩ := st_name T0; clear T0; clear F S; (try rw [HL.out] at hM); clear HL; (try simp only [List.eraseIdx_cons_zero, List.eraseIdx_cons_succ] at hM); have HL := Lib.hid hM; clear hM; have S := T; clear T; have F := qFc HL S) | ((go_at_call 63; refine (C_pick _ _ _ _ _ w0 _ (S.front qAt) HB.out ⟨by omega, by omega⟩).mono ?_; rintro e w ⟨y, rfl, hy0, T0⟩; obtain ⟨L, hM, T⟩ := st_name T0; clear T0; clear F S; (try rw [HL.out] at hM); clear HL; (try simp only [List.eraseIdx_cons_zero, List.eraseIdx_cons_succ] at hM); have HL := Lib.hid hM; clear hM; have S := T; clear T; have F := qFc HL S); have hy := hy0 (by omega); clear hy0) | (at_make; refine wpList_make rfl S _ _ _ rfl 51 _ 2 32 Tryz.underlying66 infoLy _ 5 rfl rfl rfl (by omega) (by simp only [maxLen]; omega) ?_; clear F S; intro g w L hM S; replace HL := qNm HL hM; clear hM; have F := qFc HL S))
      · rw [show (A : Int) + 1 = ((A + 1 : Nat) : Int) by omega]
        go_at_call 158
        refine (C_l20LayerQ _ _ _ _ 1 (A + 1) B w0 _ (.inl rfl) ⟨⟨by omega, by omega⟩, by omega, by omega⟩ (S.front (atOf HL (p := 0) rfl)) HB.out ⟨by omega, by omega⟩).mono ?_
        rintro e w ⟨u2, kd, ps, k2, rfl, hk5, hk6, hfw, hm, T0⟩; have HFW2 := Lib.hid (few_add HFW.out (show LyFew (u2, kd, ps) from hfw)); clear hfw
        clear hm
        rw [HL.out] at T0
        simp only [List.eraseIdx_cons_zero] at T0
        have T1 := T0.perm (.cons _ (.cons _ List.perm_middle))
        clear T0 S F HL
        have S := T1
        clear T1
        obtain ⟨L, hM, T⟩ := st_name S; clear S; have S := T; clear T; have HL := Lib.hid hM; clear hM; have F := qFc HL S
        obtain ⟨A', cap', rfl, hcap', hmax'⟩ := qSl HL S 1
        go_wp2_with (first | (refine wpList_litL rfl S _ _ rfl 51 Tryz.underlying66 infoLy _ _ rfl ?_; clear F S; intro g w L hM S; replace HL := qNm HL hM; clear hM; have F := qFc HL S) | (refine wpList_append_box rfl S _ _ _ rfl 51 _ 2 32 Tryz.underlying66 infoLy rfl (by omega) _ _ _ _ rfl qAt (by omega) _ _ _ _ _ _ rfl qAt rfl rfl rfl rfl ?_; clear F S; intro u w L hM S; replace HL := qNm HL hM; clear hM; have F := qFc HL S))
        go_ret
        rw [HL.out] at S
        exact ⟨_, _, k2, rfl, by omega, by omega, by rw [List.length_append, HLN.out]; simp; omega, HFW2.out, st_add HLN.out rfl (S.sub (.cons _ (.refl _)))⟩
      · go_at_call 158
        refine (C_l20LayerX _ _ _ _ A B w0 _ ⟨⟨by omega, by omega⟩, by omega, by omega⟩ (S.front (atOf HL (p := 0) rfl)) HB.out ⟨by omega, by omega⟩).mono ?_
        rintro e w ⟨u2, kd, ps, k2, rfl, hk5, hk6, hfw, hm, T0⟩; have HFW2 := Lib.hid (few_add HFW.out (show LyFew (u2, kd, ps) from hfw)); clear hfw
        clear hm
        rw [HL.out] at T0
        simp only [List.eraseIdx_cons_zero] at T0
        have T1 := T0.perm (.cons _ (.cons _ List.perm_middle))
        clear T0 S F HL
        have S := T1
        clear T1
        obtain ⟨L, hM, T⟩ := st_name S; clear S; have S := T; clear T; have HL := Lib.hid hM; clear hM; have F := qFc HL S
        obtain ⟨A', cap', rfl, hcap', hmax'⟩ := qSl HL S 1
        go_wp2_with (first | (refine wpList_litL rfl S _ _ rfl 51 Tryz.underlying66 infoLy _ _ rfl ?_; clear F S; intro g w L hM S; replace HL := qNm HL hM; clear hM; have F := qFc HL S) | (refine wpList_append_box rfl S _ _ _ rfl 51 _ 2 32 Tryz.underlying66 infoLy rfl (by omega) _ _ _ _ rfl qAt (by omega) _ _ _ _ _ _ rfl qAt rfl rfl rfl rfl ?_; clear F S; intro u w L hM S; replace HL := qNm HL hM; clear hM; have F := qFc HL S))
        go_ret
        rw [HL.out] at S
        exact ⟨_, _, k2, rfl, by omega, by omega, by rw [List.length_append, HLN.out]; simp; omega, HFW2.out, st_add HLN.out rfl (S.sub (.cons _ (.refl _)))⟩
      · go_ret
        rw [HL.out] at S
        have T := ((((S.nilRow 30 3).nilRow 30 3).nilRow 30 3).nilRow 30 3).nilRow 30 3
        have T1 := T.front (p := 6) (show At _ 6 _ from rfl)
        simp only [List.eraseIdx_cons_succ, List.eraseIdx_cons_zero] at T1
        have T2 := T1.front (p := 6) (show At _ 6 _ from rfl)
        simp only [List.eraseIdx_cons_succ, List.eraseIdx_cons_zero] at T2
        have T3 := T2.front (p := 1) (show At _ 1 _ from rfl)
        simp only [List.eraseIdx_cons_succ, List.eraseIdx_cons_zero] at T3
        rw [made5] at T3
        exact ⟨_, five, k' + 1, rfl, by omega, by omega, by decide, five_few,
          T3.sub (.cons_cons _ (.cons_cons _ (.cons_cons _ (.cons_cons _ (.cons_cons _ (.cons_cons _ (.cons_cons _ (.cons _ (List.sublist_append_right _ _)))))))))⟩
      · go_ret
        rw [HL.out, ← HLN.out] at S
        exact ⟨_, qs, k', rfl, by omega, by omega, by rw [HLN.out]; omega, HFW.out, S⟩
end
end Go.Proofs.YtjgfjfjboimgdaaGreat
