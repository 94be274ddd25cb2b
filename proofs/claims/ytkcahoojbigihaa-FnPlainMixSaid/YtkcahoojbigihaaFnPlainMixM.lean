/-
  Proved here: mixing keeps the sides, and equal rows stay equal.
-/
import Derived.Test.YtkcahoojbigihaaHead
import Derived.Test.YtkcahoojbigihaaMxP
import Derived.Test.YtkcahoojbigihaaDrawO
import Derived.Test.YtkcahoojbigihaaPmI
import Derived.Test.YtkcahoojbigihaaPmS
import Derived.Test.YtkcahoojbigihaaSame
import Derived.Test.YtkcahoojbigihaaBytes
namespace Go.Proofs.Ytkcahoojbigihaa
set_option linter.unusedSimpArgs false
set_option linter.unusedVariables false
set_option linter.unusedSectionVars false
/-! ### Mixing keeps equal rows equal: the plain law. -/
open Go Go.RowKit
def rowEq (m : Mx) (r : Nat) : Prop := ∀ c, c < m.c.toNat → m.xs.getD (r * m.c.toNat + c) 0 = m.xs.getD c 0
theorem div_at {r D c : Nat} (hc : c < D) : (r * D + c) / D = r := by
  rw [Nat.mul_comm, Nat.mul_add_div (by omega), Nat.div_eq_of_lt hc, Nat.add_zero]
theorem mod_at {r D c : Nat} (hc : c < D) : (r * D + c) % D = c := by
  rw [Nat.mul_comm, Nat.mul_add_mod, Nat.mod_eq_of_lt hc]
theorem rowEq_mul {a b : Mx} {r : Nat} (hr : r < a.r.toNat) (h : rowEq a r) : rowEq (mulMx a b) r := by
  intro c hc
  show (tab (a.r.toNat * b.c.toNat) _).getD (r * b.c.toNat + c) 0 = (tab (a.r.toNat * b.c.toNat) _).getD c 0
  have hc' : c < b.c.toNat := hc
  have e0 : c = 0 * b.c.toNat + c := by omega
  rw [tab_getD _ _ _ (cell_lt hr hc'), tab_getD _ _ c (by rw [e0]; exact cell_lt (by omega) hc')]
  unfold mulAt
  rw [div_at hc', mod_at hc']
  have e1 : c / b.c.toNat = 0 := Nat.div_eq_of_lt hc'
  have e2 : c % b.c.toNat = c := Nat.mod_eq_of_lt hc'
  rw [e1, e2]
  have key : ∀ k, k ≤ a.c.toNat → dot a.xs b.xs a.c.toNat b.c.toNat r c k = dot a.xs b.xs a.c.toNat b.c.toNat 0 c k := by
    intro k
    induction k with
    | zero => exact fun _ => rfl
    | succ k ih =>
      intro hk
      unfold dot
      rw [ih (by omega), h k (by omega), show 0 * a.c.toNat + k = k by omega]
  rw [key _ (Nat.le_refl _)]
theorem rowEq_map {k : Int} {m : Mx} {r : Nat} (hm : m.ok = true) (hr : r < m.r.toNat) (h : rowEq m r) : rowEq (mapMx k m) r := by
  obtain ⟨R, C, N, e1, r1, r2, c1, c2, h1, h2, _, h3⟩ := Mx.ok_nat hm
  intro c hc
  have hc' : c < m.c.toNat := hc
  show (tab m.xs.length _).getD (r * m.c.toNat + c) 0 = (tab m.xs.length _).getD c 0
  have hlen : m.xs.length = m.r.toNat * m.c.toNat := by rw [h2, ← h1, e1]; simp
  rw [tab_getD _ _ _ (by rw [hlen]; exact cell_lt hr hc'), tab_getD _ _ c (by rw [hlen, show c = 0 * m.c.toNat + c by omega]; exact cell_lt (by omega) hc')]
  unfold mapV
  rw [h c hc']
theorem rowEq_sums {m : Mx} {r : Nat} (hr : r < m.r.toNat) (h : rowEq m r) : (sumsMx m).xs.getD r 0 = (sumsMx m).xs.getD 0 0 := by
  show (tab m.r.toNat _).getD r 0 = (tab m.r.toNat _).getD 0 0
  rw [tab_getD _ _ _ hr, tab_getD _ _ _ (by omega)]
  unfold sumV
  have key : ∀ k, k ≤ m.c.toNat → rowTo m.xs m.c.toNat r k = rowTo m.xs m.c.toNat 0 k := by
    intro k
    induction k with
    | zero => exact fun _ => rfl
    | succ k ih =>
      intro hk
      unfold rowTo
      rw [ih (by omega), h k (by omega), show 0 * m.c.toNat + k = k by omega]
  rw [key _ (Nat.le_refl _)]
theorem rowEq_H {g : Mx} {r : Nat} (hg : g.ok = true) (hr : r < g.r.toNat) (h : rowEq g r) : rowEq (mixH g) r := by
  have hs := sumsMx_ok hg
  refine rowEq_map (scaleMx_ok hg (mapMx_ok hs)) hr ?_
  obtain ⟨R, C, N, e1, r1, r2, c1, c2, h1, h2, _, h3⟩ := Mx.ok_nat hg
  have hlen : g.xs.length = g.r.toNat * g.c.toNat := by rw [h2, ← h1, e1]; simp
  intro c hc
  have hc' : c < g.c.toNat := hc
  have e0 : c = 0 * g.c.toNat + c := by omega
  show (tab g.xs.length _).getD (r * g.c.toNat + c) 0 = (tab g.xs.length _).getD c 0
  rw [tab_getD _ _ _ (by rw [hlen]; exact cell_lt hr hc'), tab_getD _ _ c (by rw [hlen, e0]; exact cell_lt (by omega) hc')]
  unfold scaleV
  rw [h c hc', div_at hc', Nat.div_eq_of_lt hc']
  have hl : (sumsMx g).xs.length = g.r.toNat := tab_length _ _
  have e : (mapMx 5 (sumsMx g)).xs.getD r 0 = (mapMx 5 (sumsMx g)).xs.getD 0 0 := by
    show (tab (sumsMx g).xs.length _).getD r 0 = (tab (sumsMx g).xs.length _).getD 0 0
    rw [tab_getD _ _ _ (by rw [hl]; exact hr), tab_getD _ _ _ (by rw [hl]; omega)]
    unfold mapV
    rw [rowEq_sums hr h]
  rw [e]
/-- Equal rows stay equal. -/
theorem rowEq_mix {w0 w1 w2 x : Mx} {r : Nat} (h0 : w0.ok = true) (h1 : w1.ok = true) (h2 : w2.ok = true) (hx : x.ok = true) (hr : r < x.r.toNat) (h : rowEq x r) : rowEq (mixRun w0 w1 w2 x) r := by
  have a1 : rowEq (cutMul x w0) r := rowEq_map (mulMx_ok hx h0) hr (rowEq_mul hr h)
  have b1 := cutMul_ok hx h0
  have b2 := turnMx_ok' (cutMul_ok hx h1)
  have b3 := cutMul_ok b1 b2
  have a2 : rowEq (cutMul (cutMul x w0) (turnMx (cutMul x w1))) r := rowEq_map (mulMx_ok b1 b2) hr (rowEq_mul hr a1)
  have a3 : rowEq (mixG w0 w1 x) r := rowEq_map b3 hr a2
  have b4 : (mixG w0 w1 x).ok = true := mapMx_ok b3
  have a4 : rowEq (mixH (mixG w0 w1 x)) r := rowEq_H b4 hr a3
  have b5 : (mixH (mixG w0 w1 x)).ok = true := mapMx_ok (scaleMx_ok b4 (mapMx_ok (sumsMx_ok b4)))
  have b6 := mulMx_ok b5 (cutMul_ok hx h2)
  have a5 : rowEq (mulMx (mixH (mixG w0 w1 x)) (cutMul x w2)) r := rowEq_mul hr a4
  exact rowEq_map b6 hr a5

/-! ### Contracts of what draws layers: a layer of kind 3 that may be turned. -/
open Go Go.RowKit
set_option maxHeartbeats 8000000
set_option maxRecDepth 20000
theorem drawsLy_four {R : List Ent} {g : Nat} {v : Value} {k kind m : Int} {w0 w : World} {kd k' : Int} {u v1 v2 v3 v4 : Value} {r1 c1 r2 c2 r3 c3 r4 c4 : Int} {x1 x2 x3 x4 : List Int}
    (T : St w0 w (.box g 91 [v, .int .i64 k'] :: .row 28 3 u 4 [.int .i64 r1, .int .i64 c1, v1, .int .i64 r2, .int .i64 c2, v2, .int .i64 r3, .int .i64 c3, v3, .int .i64 r4, .int .i64 c4, v4] :: .row 3 1 v1 x1.length (ints x1) :: .row 3 1 v2 x2.length (ints x2) :: .row 3 1 v3 x3.length (ints x3) :: .row 3 1 v4 x4.length (ints x4) :: R))
    (h1 : k ≤ k') (h2 : k' ≤ k + 3000) (hx : x1.length ≤ 26 ∧ x2.length ≤ 26 ∧ x3.length ≤ 26 ∧ x4.length ≤ 26) (hm : ¬ m = 0) : DrawsLy R g v k kind m w0 (.returned (.agg #[.int .i64 kd, u])) w :=
  ⟨u, kd, [(v1, ⟨r1, c1, x1⟩), (v2, ⟨r2, c2, x2⟩), (v3, ⟨r3, c3, x3⟩), (v4, ⟨r4, c4, x4⟩)], k', rfl, h1, h2, ⟨by simp, by simpa using hx⟩, fun h => absurd h hm, T⟩
theorem C_l20LayerMixOdd (R : List Ent) (gr : Nat) (v : Value) (k : Int) (A B : Nat) (w0 w1 : World) (hAB : (1 ≤ A ∧ A ≤ 5) ∧ 1 ≤ B ∧ B ≤ 5) (S0 : St w0 w1 (.box gr 91 [v, .int .i64 k] :: R)) (hB : Bytes w0 v) (hk : 0 ≤ k ∧ k ≤ 400000000) :
    Calls Try.prog 32 #[.pointer (some ⟨gr, 0, none⟩), .int .i64 3, .int .i64 A, .int .i64 B, .int .i64 9] w1 (DrawsLy R gr v k 3 9 w0) := by
  have HB := Lib.hid hB
  obtain ⟨k1, k2⟩ := hk
  obtain ⟨⟨A1, A2⟩, B1, B2⟩ := hAB
  clear hB
  obtain ⟨L, HL, S⟩ := st_name S0
  clear S0
  replace HL := Lib.hid HL
  have F := factsAll HL S
  simp only [factsOf, cellsFrom, and_true, true_and, Nat.reduceAdd] at F
  go_enter Try.func32, Try.ntmps32
  go_upto_region 1 with (first | (refine wpList_alloc rfl S 25 _ rfl zLy ?_; intro g10 w L hM T; clear F S; (try rw [HL.out] at hM); clear HL; (try simp [Act.put, Act.eval, Value.cells, splice] at hM); have HL := Lib.hid hM; clear hM; have S := T; clear T; have F := factsAll HL S; (try simp only [factsOf, cellsFrom, and_true, true_and, Nat.reduceAdd] at F)))
  go_upto_region 3 with (first | (refine wpList_alloc rfl S 25 _ rfl zLy ?_; intro g11 w L hM T; clear F S; (try rw [HL.out] at hM); clear HL; (try simp [Act.put, Act.eval, Value.cells, splice] at hM); have HL := Lib.hid hM; clear hM; have S := T; clear T; have F := factsAll HL S; (try simp only [factsOf, cellsFrom, and_true, true_and, Nat.reduceAdd] at F)) | (refine wpList_store_box rfl S _ _ _ rfl 0 _ _ _ _ (atOf HL rfl) rfl _ rfl (by kernel_rfl) rfl rfl ?_; intro w L hM T; clear F S; (try rw [HL.out] at hM); clear HL; (try simp [Act.put, Act.eval, Value.cells, splice] at hM); have HL := Lib.hid hM; clear hM; have S := T; clear T; have F := factsAll HL S; (try simp only [factsOf, cellsFrom, and_true, true_and, Nat.reduceAdd] at F)))
  go_upto_region 8 with (first | ((go_at_call 34; refine (C_l20MatrixG _ _ _ _ _ _ _ w0 _ ⟨⟨by omega, by omega⟩, by omega, by omega⟩ (by omega) (S.front (by first | exact atOf HL (p := 0) rfl | exact atOf HL (p := 1) rfl | exact atOf HL (p := 2) rfl | exact atOf HL (p := 3) rfl | exact atOf HL (p := 4) rfl | exact atOf HL (p := 5) rfl | exact atOf HL (p := 6) rfl | exact atOf HL (p := 7) rfl)) HB.out ⟨by omega, by omega⟩).mono ?_; rintro e w ⟨u3, mr, mc, xs3, k3, rfl, hxl3, hk5, hk6, hrc3, T0⟩; obtain ⟨L, hM, T⟩ := st_name T0; clear T0; clear F S; (try rw [HL.out] at hM); clear HL; (try simp only [List.eraseIdx_cons_zero, List.eraseIdx_cons_succ] at hM); have HL := Lib.hid hM; clear hM; have S := T; clear T; have F := factsAll HL S; (try simp only [factsOf, cellsFrom, and_true, true_and, Nat.reduceAdd] at F)); obtain ⟨A', cap', rfl, hcap', hmax'⟩ := S.sliceOf (atOf HL (p := 0) rfl); obtain ⟨rfl, rfl, hxn, hall⟩ := hrc3 rfl; clear hrc3 hxn hall) | (refine wpList_lit333 rfl S _ _ _ _ rfl 28 Try.underlying23 infoMx _ _ _ _ _ _ _ _ _ rfl rfl rfl ?_; intro g w L hM T; clear F S; (try rw [HL.out] at hM); clear HL; (try simp [Act.put, Act.eval, Value.cells, splice] at hM); have HL := Lib.hid hM; clear hM; have S := T; clear T; have F := factsAll HL S; (try simp only [factsOf, cellsFrom, and_true, true_and, Nat.reduceAdd] at F)) | (refine wpList_store_box rfl S _ _ _ rfl 3 _ _ _ _ (atOf HL rfl) rfl _ rfl (by kernel_rfl) rfl rfl ?_; intro w L hM T; clear F S; (try rw [HL.out] at hM); clear HL; (try simp [Act.put, Act.eval, Value.cells, splice] at hM); have HL := Lib.hid hM; clear hM; have S := T; clear T; have F := factsAll HL S; (try simp only [factsOf, cellsFrom, and_true, true_and, Nat.reduceAdd] at F)) | (refine wpList_store_box rfl S _ _ _ rfl 4 _ _ _ _ (atOf HL rfl) rfl _ rfl (by kernel_rfl) rfl rfl ?_; intro w L hM T; clear F S; (try rw [HL.out] at hM); clear HL; (try simp [Act.put, Act.eval, Value.cells, splice] at hM); have HL := Lib.hid hM; clear hM; have S := T; clear T; have F := factsAll HL S; (try simp only [factsOf, cellsFrom, and_true, true_and, Nat.reduceAdd] at F)) | (refine wpList_store_box rfl S _ _ _ rfl 5 _ _ _ _ (atOf HL rfl) rfl _ rfl (by kernel_rfl) rfl rfl ?_; intro w L hM T; clear F S; (try rw [HL.out] at hM); clear HL; (try simp [Act.put, Act.eval, Value.cells, splice] at hM); have HL := Lib.hid hM; clear hM; have S := T; clear T; have F := factsAll HL S; (try simp only [factsOf, cellsFrom, and_true, true_and, Nat.reduceAdd] at F)) | (refine wpList_store_box rfl S _ _ _ rfl 6 _ _ _ _ (atOf HL rfl) rfl _ rfl (by kernel_rfl) rfl rfl ?_; intro w L hM T; clear F S; (try rw [HL.out] at hM); clear HL; (try simp [Act.put, Act.eval, Value.cells, splice] at hM); have HL := Lib.hid hM; clear hM; have S := T; clear T; have F := factsAll HL S; (try simp only [factsOf, cellsFrom, and_true, true_and, Nat.reduceAdd] at F)))
  rw [HL.out] at S
  have T := S.asRow (p := 0) (size := 3) (n := 3) rfl rfl (by simp [maxLen])
  simp only [List.set_cons_zero, List.set_cons_succ] at T
  have T1 := T.front (p := 1) (show At _ 1 _ from rfl)
  simp only [List.eraseIdx_cons_succ, List.eraseIdx_cons_zero] at T1
  have T2 := T1.front (p := 3) (show At _ 3 _ from rfl)
  simp only [List.eraseIdx_cons_succ, List.eraseIdx_cons_zero] at T2
  have T3 := T2.front (p := 4) (show At _ 4 _ from rfl)
  simp only [List.eraseIdx_cons_succ, List.eraseIdx_cons_zero] at T3
  have T4 := T3.front (p := 3) (show At _ 3 _ from rfl)
  simp only [List.eraseIdx_cons_succ, List.eraseIdx_cons_zero] at T4
  have T5 := T4.front (p := 4) (show At _ 4 _ from rfl)
  simp only [List.eraseIdx_cons_succ, List.eraseIdx_cons_zero] at T5
  clear S HL F T T1 T2 T3 T4
  have S := T5
  clear T5
  obtain ⟨L, hM, T⟩ := st_name S; clear S; have S := T; clear T; have HL := Lib.hid hM; clear hM; have F := factsAll HL S; (try simp only [factsOf, cellsFrom, and_true, true_and, Nat.reduceAdd] at F)
  go_wp2_with (first | (go_at_call 33; refine (C_odd _ _ _ _ _ w0 _ (S.front (by first | exact atOf HL (p := 0) rfl | exact atOf HL (p := 1) rfl | exact atOf HL (p := 2) rfl | exact atOf HL (p := 3) rfl | exact atOf HL (p := 4) rfl | exact atOf HL (p := 5) rfl | exact atOf HL (p := 6) rfl | exact atOf HL (p := 7) rfl)) HB.out ⟨by omega, by omega⟩).mono ?_; rintro e w ⟨y, k', rfl, hk1, hk2, T0⟩; obtain ⟨L, hM, T⟩ := st_name T0; clear T0; clear F S; (try rw [HL.out] at hM); clear HL; (try simp only [List.eraseIdx_cons_zero, List.eraseIdx_cons_succ] at hM); have HL := Lib.hid hM; clear hM; have S := T; clear T; have F := factsAll HL S; (try simp only [factsOf, cellsFrom, and_true, true_and, Nat.reduceAdd] at F)) | ((go_at_call 31; refine (C_pick _ _ _ _ _ w0 _ (S.front (by first | exact atOf HL (p := 0) rfl | exact atOf HL (p := 1) rfl | exact atOf HL (p := 2) rfl | exact atOf HL (p := 3) rfl | exact atOf HL (p := 4) rfl | exact atOf HL (p := 5) rfl | exact atOf HL (p := 6) rfl | exact atOf HL (p := 7) rfl)) HB.out ⟨by omega, by omega⟩).mono ?_; rintro e w ⟨y, rfl, hy0, T0⟩; obtain ⟨L, hM, T⟩ := st_name T0; clear T0; clear F S; (try rw [HL.out] at hM); clear HL; (try simp only [List.eraseIdx_cons_zero, List.eraseIdx_cons_succ] at hM); have HL := Lib.hid hM; clear hM; have S := T; clear T; have F := factsAll HL S; (try simp only [factsOf, cellsFrom, and_true, true_and, Nat.reduceAdd] at F)); have hy := hy0 (by omega); clear hy0) | (refine wpList_lit rfl S _ _ _ rfl 3 Try.underlying26 infoInt (by simp [Act.eval]) (by simp [Act.eval, Value.oneCell']) rfl rfl rfl ?_; intro g w L hM T; clear F S; (try rw [HL.out] at hM); clear HL; (try simp [Act.put, Act.eval, Value.cells, splice] at hM); have HL := Lib.hid hM; clear hM; have S := T; clear T; have F := factsAll HL S; (try simp only [factsOf, cellsFrom, and_true, true_and, Nat.reduceAdd] at F)) | (first | (refine wpList_load_lit rfl S _ _ rfl Try.underlying3 1 _ _ _ _ (atOf HL rfl) rfl (by simp) (by simp; omega) ?_; intro q hq; clear hq) | (refine wpList_load_lit rfl S _ _ rfl Try.underlying3 2 _ _ _ _ (atOf HL rfl) rfl (by simp) (by simp; omega) ?_; intro q hq; clear hq) | (refine wpList_load_lit rfl S _ _ rfl Try.underlying3 3 _ _ _ _ (atOf HL rfl) rfl (by simp) (by simp; omega) ?_; intro q hq; clear hq)) | ((go_at_call 34; refine (C_l20MatrixG _ _ _ _ _ 2 2 w0 _ ⟨⟨by omega, by omega⟩, by omega, by omega⟩ (by omega) (S.front (by first | exact atOf HL (p := 0) rfl | exact atOf HL (p := 1) rfl | exact atOf HL (p := 2) rfl | exact atOf HL (p := 3) rfl | exact atOf HL (p := 4) rfl | exact atOf HL (p := 5) rfl | exact atOf HL (p := 6) rfl | exact atOf HL (p := 7) rfl)) HB.out ⟨by omega, by omega⟩).mono ?_; rintro e w ⟨u4, mr, mc, xs4, k4, rfl, hxl4, hk7, hk8, hrc4, T0⟩; obtain ⟨L, hM, T⟩ := st_name T0; clear T0; clear F S; (try rw [HL.out] at hM); clear HL; (try simp only [List.eraseIdx_cons_zero, List.eraseIdx_cons_succ] at hM); have HL := Lib.hid hM; clear hM; have S := T; clear T; have F := factsAll HL S; (try simp only [factsOf, cellsFrom, and_true, true_and, Nat.reduceAdd] at F)); clear hrc4; obtain ⟨A', cap', rfl, hcap', hmax'⟩ := S.sliceOf (atOf HL (p := 0) rfl)) | (refine wpList_lit3 rfl S _ _ rfl 28 Try.underlying23 infoMx _ _ _ rfl ?_; intro g' w L hM T; clear F S; (try rw [HL.out] at hM); clear HL; (try simp [Act.put, Act.eval, Value.cells, splice] at hM); have HL := Lib.hid hM; clear hM; have S := T; clear T; have F := factsAll HL S; (try simp only [factsOf, cellsFrom, and_true, true_and, Nat.reduceAdd] at F)) | (refine wpList_store_box rfl S _ _ _ rfl 5 _ _ _ _ (atOf HL rfl) rfl _ rfl (by kernel_rfl) rfl rfl ?_; intro w L hM T; clear F S; (try rw [HL.out] at hM); clear HL; (try simp [Act.put, Act.eval, Value.cells, splice] at hM); have HL := Lib.hid hM; clear hM; have S := T; clear T; have F := factsAll HL S; (try simp only [factsOf, cellsFrom, and_true, true_and, Nat.reduceAdd] at F)) | (refine wpList_store_box rfl S _ _ _ rfl 6 _ _ _ _ (atOf HL rfl) rfl _ rfl (by kernel_rfl) rfl rfl ?_; intro w L hM T; clear F S; (try rw [HL.out] at hM); clear HL; (try simp [Act.put, Act.eval, Value.cells, splice] at hM); have HL := Lib.hid hM; clear hM; have S := T; clear T; have F := factsAll HL S; (try simp only [factsOf, cellsFrom, and_true, true_and, Nat.reduceAdd] at F)) | (refine wpList_store_box rfl S _ _ _ rfl 7 _ _ _ _ (atOf HL rfl) rfl _ rfl (by kernel_rfl) rfl rfl ?_; intro w L hM T; clear F S; (try rw [HL.out] at hM); clear HL; (try simp [Act.put, Act.eval, Value.cells, splice] at hM); have HL := Lib.hid hM; clear hM; have S := T; clear T; have F := factsAll HL S; (try simp only [factsOf, cellsFrom, and_true, true_and, Nat.reduceAdd] at F)) | (refine wpList_store_box rfl S _ _ _ rfl 8 _ _ _ _ (atOf HL rfl) rfl _ rfl (by kernel_rfl) rfl rfl ?_; intro w L hM T; clear F S; (try rw [HL.out] at hM); clear HL; (try simp [Act.put, Act.eval, Value.cells, splice] at hM); have HL := Lib.hid hM; clear hM; have S := T; clear T; have F := factsAll HL S; (try simp only [factsOf, cellsFrom, and_true, true_and, Nat.reduceAdd] at F)))
  · ((try simp only [Exit.inBlock, Exit.then]); refine ret1 rfl (resCell S HL 7 rfl rfl (by kernel_rfl)) rfl ?_)
    rw [HL.out] at S
    exact drawsLy_three (S.sub (.cons_cons _ (.cons _ (.cons_cons _ (.cons_cons _ (.cons_cons _ (.cons_cons _ (.cons _ (.cons _ (.refl _)))))))))) (by omega) (by omega) (by omega) fun h => absurd h (by omega)
  · have hT := congrArg (List.drop 2) HL.out; simp only [List.drop_succ_cons, List.drop_zero] at hT; obtain ⟨L1, hL1⟩ : ∃ M, M = L.drop 2 := ⟨_, rfl⟩; rw [← hL1] at hT; have HL0 := Lib.hid hT; have S1 := S.sub (List.drop_sublist 2 L); rw [← hL1] at S1; have F0 := factsAll HL0 S1; (try simp only [factsOf, cellsFrom, and_true, true_and, Nat.reduceAdd] at F0); clear S1 hL1 hT; refine wp_region_tree (S := fun w' => St w0 w' L1) (.calm 0 (.calm 1 (.calm 2 (.act 3 (.act 4 (.act 5 (.calm 6 (.act 7 .fin .stop)) .stop) .stop) .stop)))) (by kernel_rfl) (by kernel_rfl) (by kernel_rfl) (by intro c a d v w h; cases d <;> exact h) ?_; replace S := S.drew
    repeat (first | (first | (refine tree_calm (v := ?_) ?_ rfl (by decide +kernel) rfl ?_ ?_; rotate_left; (focus (first | exact S | (refine S.sub (subL HL0 HL ?_); (repeat (first | exact List.Sublist.refl _ | apply List.Sublist.cons)); done))); (focus (intro w' hS'; (try dsimp only at hS'); go_simp; try rfl)); (try simp only [Act.put, List.setIfInBounds_toArray, List.set_cons_zero, List.set_cons_succ])) | (refine tree_any (v := ?_) ?_ rfl rfl ?_ ?_; rotate_left; (focus (first | exact S | (refine S.sub (subL HL0 HL ?_); (repeat (first | exact List.Sublist.refl _ | apply List.Sublist.cons)); done))); (focus (intro w'; go_simp; try rfl)); (try simp only [Act.put, List.setIfInBounds_toArray, List.set_cons_zero, List.set_cons_succ]))) | (refine tree_skip ?_ rfl rfl ?_; (focus (first | exact S | (refine S.sub (subL HL0 HL ?_); (repeat (first | exact List.Sublist.refl _ | apply List.Sublist.cons)); done))); (try simp only [Act.put, List.setIfInBounds_toArray, List.set_cons_zero, List.set_cons_succ])) | (refine tree_act rfl rfl ?_ tree_stop; intro K hK; (refine wp_lit3 S _ _ rfl 28 Try.underlying23 infoMx _ _ _ rfl ?_; intro g' w L hM T; clear F S; (try rw [HL.out] at hM); clear HL; (try simp [Act.put, Act.eval, Value.cells, splice] at hM); have HL := Lib.hid hM; clear hM; have S := T; clear T; have F := factsAll HL S; (try simp only [factsOf, cellsFrom, and_true, true_and, Nat.reduceAdd] at F)); (refine hK.out _ _ ?_ ?_; (focus (first | exact fun _ => S | (intro _; refine S.sub (subL HL0 HL ?_); (repeat (first | exact List.Sublist.refl _ | apply List.Sublist.cons)); done) | (refine sink_no ?_; kernel_rfl))); clear hK K; (try simp only [Act.put, List.setIfInBounds_toArray, List.set_cons_zero, List.set_cons_succ]))) | (refine tree_act rfl rfl ?_ tree_stop; intro K hK; (refine wp_append_box S _ _ _ rfl 28 _ 3 40 Try.underlying23 infoMx rfl (by omega) _ _ _ _ rfl (by first | exact atOf HL (p := 0) rfl | exact atOf HL (p := 1) rfl | exact atOf HL (p := 2) rfl | exact atOf HL (p := 3) rfl | exact atOf HL (p := 4) rfl | exact atOf HL (p := 5) rfl | exact atOf HL (p := 6) rfl | exact atOf HL (p := 7) rfl) (by omega) _ _ _ _ _ _ rfl (by first | exact atOf HL (p := 0) rfl | exact atOf HL (p := 1) rfl | exact atOf HL (p := 2) rfl | exact atOf HL (p := 3) rfl | exact atOf HL (p := 4) rfl | exact atOf HL (p := 5) rfl | exact atOf HL (p := 6) rfl | exact atOf HL (p := 7) rfl) rfl rfl rfl rfl ?_; intro u' w L hM T; clear F S; (try rw [HL.out] at hM); clear HL; (try simp [Act.put, Act.eval, Value.cells, splice] at hM); have HL := Lib.hid hM; clear hM; have S := T; clear T; have F := factsAll HL S; (try simp only [factsOf, cellsFrom, and_true, true_and, Nat.reduceAdd] at F); obtain ⟨A', cap', rfl, hcap', hmax'⟩ := S.sliceOf (atOf HL (p := 3) rfl)); (refine hK.out _ _ ?_ ?_; (focus (first | exact fun _ => S | (intro _; refine S.sub (subL HL0 HL ?_); (repeat (first | exact List.Sublist.refl _ | apply List.Sublist.cons)); done) | (refine sink_no ?_; kernel_rfl))); clear hK K; (try simp only [Act.put, List.setIfInBounds_toArray, List.set_cons_zero, List.set_cons_succ]))) | (refine tree_act rfl rfl ?_ tree_stop; intro K hK; (refine wp_store_box S _ _ _ rfl 7 _ _ _ _ (atOf HL rfl) rfl _ rfl (by kernel_rfl) rfl rfl ?_; intro w L hM T; clear F S; (try rw [HL.out] at hM); clear HL; (try simp [Act.put, Act.eval, Value.cells, splice] at hM); have HL := Lib.hid hM; clear hM; have S := T; clear T; have F := factsAll HL S; (try simp only [factsOf, cellsFrom, and_true, true_and, Nat.reduceAdd] at F)); (refine hK.out _ _ ?_ ?_; (focus (first | exact fun _ => S | (intro _; refine S.sub (subL HL0 HL ?_); (repeat (first | exact List.Sublist.refl _ | apply List.Sublist.cons)); done) | (refine sink_no ?_; kernel_rfl))); clear hK K; (try simp only [Act.put, List.setIfInBounds_toArray, List.set_cons_zero, List.set_cons_succ]))) | (refine tree_act rfl rfl ?_ tree_stop; intro K hK; go_wp2_with (first | ((go_at_call 34; refine (C_l20MatrixG _ _ _ _ _ 1 1 w0 _ ⟨⟨by omega, by omega⟩, by omega, by omega⟩ (by omega) (S.front (by first | exact atOf HL (p := 0) rfl | exact atOf HL (p := 1) rfl | exact atOf HL (p := 2) rfl | exact atOf HL (p := 3) rfl | exact atOf HL (p := 4) rfl | exact atOf HL (p := 5) rfl | exact atOf HL (p := 6) rfl | exact atOf HL (p := 7) rfl)) HB.out ⟨by omega, by omega⟩).mono ?_; rintro e w ⟨u4, mr, mc, xs4, k4, rfl, hxl4, hk7, hk8, hrc4, T0⟩; obtain ⟨L, hM, T⟩ := st_name T0; clear T0; clear F S; (try rw [HL.out] at hM); clear HL; (try simp only [List.eraseIdx_cons_zero, List.eraseIdx_cons_succ] at hM); have HL := Lib.hid hM; clear hM; have S := T; clear T; have F := factsAll HL S; (try simp only [factsOf, cellsFrom, and_true, true_and, Nat.reduceAdd] at F)); clear hrc4; obtain ⟨A', cap', rfl, hcap', hmax'⟩ := S.sliceOf (atOf HL (p := 0) rfl))); (refine hK.out _ _ ?_ ?_; (focus (first | exact fun _ => S | (intro _; refine S.sub (subL HL0 HL ?_); (repeat (first | exact List.Sublist.refl _ | apply List.Sublist.cons)); done) | (refine sink_no ?_; kernel_rfl))); clear hK K; (try simp only [Act.put, List.setIfInBounds_toArray, List.set_cons_zero, List.set_cons_succ]))))
    refine tree_fin ?_
    clear HL0 F0
    go_wp2_with (first | (refine wpList_store_box rfl S _ _ _ rfl 8 _ _ _ _ (atOf HL rfl) rfl _ rfl (by kernel_rfl) rfl rfl ?_; intro w L hM T; clear F S; (try rw [HL.out] at hM); clear HL; (try simp [Act.put, Act.eval, Value.cells, splice] at hM); have HL := Lib.hid hM; clear hM; have S := T; clear T; have F := factsAll HL S; (try simp only [factsOf, cellsFrom, and_true, true_and, Nat.reduceAdd] at F)))
    ((try simp only [Exit.inBlock, Exit.then]); refine ret1 rfl (resCell S HL 8 rfl rfl (by kernel_rfl)) rfl ?_)
    rw [HL.out] at S
    have T1 := S.front (p := 1) (show At _ 1 _ from rfl)
    simp only [List.eraseIdx_cons_succ, List.eraseIdx_cons_zero] at T1
    have T2 := T1.front (p := 6) (show At _ 6 _ from rfl)
    simp only [List.eraseIdx_cons_succ, List.eraseIdx_cons_zero] at T2
    have T3 := T2.front (p := 6) (show At _ 6 _ from rfl)
    simp only [List.eraseIdx_cons_succ, List.eraseIdx_cons_zero] at T3
    have T4 := T3.front (p := 6) (show At _ 6 _ from rfl)
    simp only [List.eraseIdx_cons_succ, List.eraseIdx_cons_zero] at T4
    have T5 := T4.front (p := 6) (show At _ 6 _ from rfl)
    simp only [List.eraseIdx_cons_succ, List.eraseIdx_cons_zero] at T5
    have T6 := T5.front (p := 6) (show At _ 6 _ from rfl)
    simp only [List.eraseIdx_cons_succ, List.eraseIdx_cons_zero] at T6
    exact drawsLy_four (T6.sub (.cons_cons _ (.cons_cons _ (.cons_cons _ (.cons_cons _ (.cons_cons _ (.cons_cons _ (.cons _ (.cons _ (.cons _ (.refl _))))))))))) (by omega) (by omega) (by omega) (by omega)
  · ((try simp only [Exit.inBlock, Exit.then]); refine ret1 rfl (resCell S HL 8 rfl rfl (by kernel_rfl)) rfl ?_)
    rw [HL.out] at S
    have T := S.asRow (p := 0) (size := 3) (n := 1) rfl rfl (by simp [maxLen])
    simp only [List.set_cons_zero, List.set_cons_succ] at T
    have T1 := T.front (p := 2) (show At _ 2 _ from rfl)
    simp only [List.eraseIdx_cons_succ, List.eraseIdx_cons_zero] at T1
    exact drawsLy_one (T1.sub (.cons_cons _ (.cons_cons _ (.cons_cons _ (.cons _ (.cons _ (.cons _ (.cons _ (.cons _ (.cons _ (.refl _))))))))))) (by omega) (by omega) (by omega) (by omega)
  · ((try simp only [Exit.inBlock, Exit.then]); refine ret1 rfl (resCell S HL 6 rfl rfl (by kernel_rfl)) rfl ?_)
    rw [HL.out] at S
    have T := (S.nilRow 28 3).front (p := 1) (show At _ 1 _ from rfl)
    simp only [List.eraseIdx_cons_succ, List.eraseIdx_cons_zero] at T
    exact ⟨_, _, [], k' + 1 + 1, rfl, by omega, by omega, ⟨by simp, by simp⟩, fun h => absurd h (by omega), T.sub (.cons_cons _ (.cons_cons _ (.cons _ (.cons _ (.cons _ (.cons _ (.cons _ (.cons _ (.refl _)))))))))⟩
  · ((try simp only [Exit.inBlock, Exit.then]); refine ret1 rfl (resCell S HL 6 rfl rfl (by kernel_rfl)) rfl ?_)
    rw [HL.out] at S
    exact drawsLy_three (S.sub (.cons_cons _ (.cons_cons _ (.cons_cons _ (.cons_cons _ (.cons_cons _ (.cons _ (.cons _ (.refl _))))))))) (by omega) (by omega) (by omega) fun h => absurd h (by omega)

/-! ### Contracts of what draws a layer and a matrix. -/
open Go Go.RowKit
set_option maxHeartbeats 8000000
set_option maxRecDepth 20000
theorem pick_one {y : Int} (h : 0 ≤ y ∧ y < 3) : ∃ j : Nat, 1 + y = (j : Int) ∧ IntKind.i64.wrap (j : Int) = (j : Int) ∧ 1 ≤ j ∧ j ≤ 3 :=
  ⟨(1 + y).toNat, by omega, wrap_small (by omega), by omega, by omega⟩
/-- A layer and a matrix are drawn: both are seen, and small. -/
def DrawnLyMx (w0 : World) (e : Ending) (w' : World) : Prop :=
  ∃ (l : Ly) (x : Mx) (v u : Value), e = .returned (.tuple #[.agg #[.int .i64 l.kind, v], .agg #[.int .i64 (x).r, .int .i64 (x).c, u]]) ∧ (l.ws.length ≤ 4 ∧ ∀ m ∈ l.ws, m.xs.length ≤ 26) ∧ x.xs.length ≤ 26 ∧ SeesMs w' v l.ws ∧ Ints w' u x.xs ∧ Below w0.heap.size w0 w'
theorem drawn_lymx {w0 w : World} {M : List Ent} {v u : Value} {kd r c : Int} {ps : MsO} {xs : List Int} (S : St w0 w M) (hf : ps.length ≤ 4 ∧ ∀ p ∈ ps, p.2.xs.length ≤ 26) (hx : xs.length ≤ 26) (h : ∀ e ∈ entsM v ps, e ∈ M) (h' : .row 3 1 u xs.length (ints xs) ∈ M) : DrawnLyMx w0 (.returned (.tuple #[.agg #[.int .i64 kd, v], .agg #[.int .i64 r, .int .i64 c, u]])) w := by
  refine ⟨⟨kd, ps.map Prod.snd⟩, ⟨r, c, xs⟩, v, u, rfl, ⟨by simpa using hf.1, fun m hm => ?_⟩, hx, sees_ms S h, Sees.own (S.own _ h'), S.below⟩
  obtain ⟨p, hp, rfl⟩ := List.mem_map.1 hm
  exact hf.2 p hp
theorem C_DrawPlainMix (v : Value) (w0 : World) (h : Bytes w0 v) : Calls Try.prog 7 #[v] w0 (DrawnLyMx w0) := by
  have H := Lib.hid h
  clear h
  obtain ⟨L, HL, S⟩ := st_start w0; have F : True := trivial
  go_enter Try.func7, Try.ntmps7
  go_upto_region 1 with (first | (refine wpList_alloc rfl S 25 _ rfl zLy ?_; intro g2 w L hM T; clear F S; (try rw [HL.out] at hM); clear HL; (try simp [Act.put, Act.eval, Value.cells, splice] at hM); have HL := Lib.hid hM; clear hM; have S := T; clear T; have F := factsAll HL S; (try simp only [factsOf, cellsFrom, and_true, true_and, Nat.reduceAdd] at F)) | (refine wpList_alloc rfl S 28 _ rfl zMx ?_; intro g3 w L hM T; clear F S; (try rw [HL.out] at hM); clear HL; (try simp [Act.put, Act.eval, Value.cells, splice] at hM); have HL := Lib.hid hM; clear hM; have S := T; clear T; have F := factsAll HL S; (try simp only [factsOf, cellsFrom, and_true, true_and, Nat.reduceAdd] at F)))
  go_upto_region 3 with (first | (go_at_call 30; refine (C_l20Open _ w0 _ (H.out)).mono ?_; rintro e w ⟨gr, vr, rfl, hB, T0⟩; have HB := Lib.hid hB; clear hB; obtain ⟨L, hM, T⟩ := st_name (S.call T0); clear T0; clear F S; (try rw [HL.out] at hM); clear HL; (try simp [Act.put, Act.eval, Value.cells, splice] at hM); have HL := Lib.hid hM; clear hM; have S := T; clear T; have F := factsAll HL S; (try simp only [factsOf, cellsFrom, and_true, true_and, Nat.reduceAdd] at F)) | ((go_at_call 31; refine (C_pick _ _ _ _ _ w0 _ (S.front (by first | exact atOf HL (p := 0) rfl | exact atOf HL (p := 1) rfl | exact atOf HL (p := 2) rfl | exact atOf HL (p := 3) rfl | exact atOf HL (p := 4) rfl | exact atOf HL (p := 5) rfl | exact atOf HL (p := 6) rfl | exact atOf HL (p := 7) rfl)) HB.out ⟨by omega, by omega⟩).mono ?_; rintro e w ⟨ya, rfl, hy0, T0⟩; obtain ⟨L, hM, T⟩ := st_name T0; clear T0; clear F S; (try rw [HL.out] at hM); clear HL; (try simp only [List.eraseIdx_cons_zero, List.eraseIdx_cons_succ] at hM); have HL := Lib.hid hM; clear hM; have S := T; clear T; have F := factsAll HL S; (try simp only [factsOf, cellsFrom, and_true, true_and, Nat.reduceAdd] at F)); have ha := hy0 (by omega); clear hy0; obtain ⟨B, hB'⟩ : ∃ j : Nat, 1 + ya = (j : Int) := ⟨(1 + ya).toNat, by omega⟩))
  have b1 : 1 ≤ B := by omega
  have b2 : B ≤ 3 := by omega
  clear ha hB'
  go_upto_region 4 with (first | ((go_at_call 32; refine (C_l20LayerMixOdd _ _ _ _ 1 _ w0 _ ⟨⟨by omega, by omega⟩, by omega, by omega⟩ (S.front (by first | exact atOf HL (p := 0) rfl | exact atOf HL (p := 1) rfl | exact atOf HL (p := 2) rfl | exact atOf HL (p := 3) rfl | exact atOf HL (p := 4) rfl | exact atOf HL (p := 5) rfl | exact atOf HL (p := 6) rfl | exact atOf HL (p := 7) rfl)) HB.out ⟨by omega, by omega⟩).mono ?_; rintro e w ⟨u2, kd, ps, k2, rfl, hk5, hk6, hfw, hm, T0⟩; obtain ⟨L, hM, T⟩ := st_name T0; clear T0; clear F S; (try rw [HL.out] at hM); clear HL; (try simp only [List.eraseIdx_cons_zero, List.eraseIdx_cons_succ] at hM); have HL := Lib.hid hM; clear hM; have S := T; clear T; have F := factsAll HL S; (try simp only [factsOf, cellsFrom, and_true, true_and, Nat.reduceAdd] at F)); clear hm; have HFW := Lib.hid hfw; clear hfw; obtain ⟨A', cap', rfl, hcap', hmax'⟩ := S.sliceOf (atOf HL (p := 1) rfl); rw [HL.out] at S; have T : St w0 _ (_ :: _ :: _ :: entsM _ ps) := S.perm (.cons _ (List.perm_append_comm (l₁ := entsM _ ps) (l₂ := [_, _]))); clear S HL F; have S := T; clear T; obtain ⟨L, hM, T⟩ := st_name S; clear S; have S := T; clear T; have HL := Lib.hid hM; clear hM; have F := factsAll HL S; (try simp only [factsOf, cellsFrom, and_true, true_and, Nat.reduceAdd] at F)) | (refine wpList_alloc rfl S 25 _ rfl zLy ?_; intro g6 w L hM T; clear F S; (try rw [HL.out] at hM); clear HL; (try simp [Act.put, Act.eval, Value.cells, splice] at hM); have HL := Lib.hid hM; clear hM; have S := T; clear T; have F := factsAll HL S; (try simp only [factsOf, cellsFrom, and_true, true_and, Nat.reduceAdd] at F)) | (refine wpList_store_box rfl S _ _ _ rfl 0 _ _ _ _ (atOf HL rfl) rfl _ rfl (by kernel_rfl) rfl rfl ?_; intro w L hM T; clear F S; (try rw [HL.out] at hM); clear HL; (try simp [Act.put, Act.eval, Value.cells, splice] at hM); have HL := Lib.hid hM; clear hM; have S := T; clear T; have F := factsAll HL S; (try simp only [factsOf, cellsFrom, and_true, true_and, Nat.reduceAdd] at F)))
  go_upto_region 6 with (first | (go_at_call 33; refine (C_odd _ _ _ _ _ w0 _ (S.front (by first | exact atOf HL (p := 0) rfl | exact atOf HL (p := 1) rfl | exact atOf HL (p := 2) rfl | exact atOf HL (p := 3) rfl | exact atOf HL (p := 4) rfl | exact atOf HL (p := 5) rfl | exact atOf HL (p := 6) rfl | exact atOf HL (p := 7) rfl)) HB.out ⟨by omega, by omega⟩).mono ?_; rintro e w ⟨y, k', rfl, hk1, hk2, T0⟩; obtain ⟨L, hM, T⟩ := st_name T0; clear T0; clear F S; (try rw [HL.out] at hM); clear HL; (try simp only [List.eraseIdx_cons_zero, List.eraseIdx_cons_succ] at hM); have HL := Lib.hid hM; clear hM; have S := T; clear T; have F := factsAll HL S; (try simp only [factsOf, cellsFrom, and_true, true_and, Nat.reduceAdd] at F)))
  · rw [HL.out] at S
    have T1 := S.front (p := 2) (show At _ 2 _ from rfl)
    simp only [List.eraseIdx_cons_succ, List.eraseIdx_cons_zero] at T1
    have T2 := T1.front (p := 3) (show At _ 3 _ from rfl)
    simp only [List.eraseIdx_cons_succ, List.eraseIdx_cons_zero] at T2
    have T3 := T2.front (p := 2) (show At _ 2 _ from rfl)
    simp only [List.eraseIdx_cons_succ, List.eraseIdx_cons_zero] at T3
    clear S HL F T1 T2
    have S := T3
    clear T3
    obtain ⟨L, hM, T⟩ := st_name S; clear S; have S := T; clear T; have HL := Lib.hid hM; clear hM; have F := factsAll HL S; (try simp only [factsOf, cellsFrom, and_true, true_and, Nat.reduceAdd] at F)
    obtain ⟨B2, hB2⟩ : ∃ B2 : Nat, (B : Int) + 1 = (B2 : Int) := ⟨B + 1, by omega⟩
    rw [hB2]
    have b3 : 1 ≤ B2 := by omega
    have b4 : B2 ≤ 4 := by omega
    clear hB2
    have hT := congrArg (List.drop 3) HL.out; simp only [List.drop_succ_cons, List.drop_zero] at hT; obtain ⟨L1, hL1⟩ : ∃ M, M = L.drop 3 := ⟨_, rfl⟩; rw [← hL1] at hT; have HL0 := Lib.hid hT; have S1 := S.sub (List.drop_sublist 3 L); rw [← hL1] at S1; have F0 := factsAll HL0 S1; (try simp only [factsOf, cellsFrom, and_true, true_and, Nat.reduceAdd] at F0); clear S1 hL1 hT; refine wp_region_tree (S := fun w' => St w0 w' L1) (.calm 0 (.calm 1 (.calm 2 (.calm 5 (.act 3 (.calm 4 (.act 6 (.act 7 (.act 8 .fin .stop) .stop) .stop)) .stop))))) (by kernel_rfl) (by kernel_rfl) (by kernel_rfl) (by intro c a d v w h; cases d <;> exact h) ?_; replace S := S.drew
    repeat (first | (first | (refine tree_calm (v := ?_) ?_ rfl (by decide +kernel) rfl ?_ ?_; rotate_left; (focus (first | exact S | (refine S.sub (subL HL0 HL ?_); (repeat (first | exact List.Sublist.refl _ | apply List.Sublist.cons)); done))); (focus (intro w' hS'; (try dsimp only at hS'); go_simp; try rfl)); (try simp only [Act.put, List.setIfInBounds_toArray, List.set_cons_zero, List.set_cons_succ])) | (refine tree_any (v := ?_) ?_ rfl rfl ?_ ?_; rotate_left; (focus (first | exact S | (refine S.sub (subL HL0 HL ?_); (repeat (first | exact List.Sublist.refl _ | apply List.Sublist.cons)); done))); (focus (intro w'; go_simp; try rfl)); (try simp only [Act.put, List.setIfInBounds_toArray, List.set_cons_zero, List.set_cons_succ]))) | (refine tree_skip ?_ rfl rfl ?_; (focus (first | exact S | (refine S.sub (subL HL0 HL ?_); (repeat (first | exact List.Sublist.refl _ | apply List.Sublist.cons)); done))); (try simp only [Act.put, List.setIfInBounds_toArray, List.set_cons_zero, List.set_cons_succ])) | (refine tree_act rfl rfl ?_ tree_stop; intro K hK; (refine wp_store_box S _ _ _ rfl 2 _ _ _ _ (atOf HL rfl) rfl _ rfl (by kernel_rfl) rfl rfl ?_; intro w L hM T; clear F S; (try rw [HL.out] at hM); clear HL; (try simp [Act.put, Act.eval, Value.cells, splice] at hM); have HL := Lib.hid hM; clear hM; have S := T; clear T; have F := factsAll HL S; (try simp only [factsOf, cellsFrom, and_true, true_and, Nat.reduceAdd] at F)); (refine hK.out _ _ ?_ ?_; (focus (first | exact fun _ => S | (intro _; refine S.sub (subL HL0 HL ?_); (repeat (first | exact List.Sublist.refl _ | apply List.Sublist.cons)); done) | (refine sink_no ?_; kernel_rfl))); clear hK K; (try simp only [Act.put, List.setIfInBounds_toArray, List.set_cons_zero, List.set_cons_succ]))) | (refine tree_act rfl rfl ?_ tree_stop; intro K hK; (refine wp_store_box S _ _ _ rfl 3 _ _ _ _ (atOf HL rfl) rfl _ rfl (by kernel_rfl) rfl rfl ?_; intro w L hM T; clear F S; (try rw [HL.out] at hM); clear HL; (try simp [Act.put, Act.eval, Value.cells, splice] at hM); have HL := Lib.hid hM; clear hM; have S := T; clear T; have F := factsAll HL S; (try simp only [factsOf, cellsFrom, and_true, true_and, Nat.reduceAdd] at F)); (refine hK.out _ _ ?_ ?_; (focus (first | exact fun _ => S | (intro _; refine S.sub (subL HL0 HL ?_); (repeat (first | exact List.Sublist.refl _ | apply List.Sublist.cons)); done) | (refine sink_no ?_; kernel_rfl))); clear hK K; (try simp only [Act.put, List.setIfInBounds_toArray, List.set_cons_zero, List.set_cons_succ]))) | (refine tree_act rfl rfl ?_ tree_stop; intro K hK; go_wp2_with (first | ((go_at_call 31; refine (C_pick _ _ _ _ _ w0 _ (S.front (by first | exact atOf HL (p := 0) rfl | exact atOf HL (p := 1) rfl | exact atOf HL (p := 2) rfl | exact atOf HL (p := 3) rfl | exact atOf HL (p := 4) rfl | exact atOf HL (p := 5) rfl | exact atOf HL (p := 6) rfl | exact atOf HL (p := 7) rfl)) HB.out ⟨by omega, by omega⟩).mono ?_; rintro e w ⟨y, rfl, hy0, T0⟩; obtain ⟨L, hM, T⟩ := st_name T0; clear T0; clear F S; (try rw [HL.out] at hM); clear HL; (try simp only [List.eraseIdx_cons_zero, List.eraseIdx_cons_succ] at hM); have HL := Lib.hid hM; clear hM; have S := T; clear T; have F := factsAll HL S; (try simp only [factsOf, cellsFrom, and_true, true_and, Nat.reduceAdd] at F)); have hy := hy0 (by omega); clear hy0; obtain ⟨j, hj, hjw, hj1, hj2⟩ := pick_one hy; clear hy) | ((go_at_call 34; refine (C_l20MatrixG _ _ _ _ _ _ _ w0 _ ⟨⟨by omega, by omega⟩, by omega, by omega⟩ (by omega) (S.front (by first | exact atOf HL (p := 0) rfl | exact atOf HL (p := 1) rfl | exact atOf HL (p := 2) rfl | exact atOf HL (p := 3) rfl | exact atOf HL (p := 4) rfl | exact atOf HL (p := 5) rfl | exact atOf HL (p := 6) rfl | exact atOf HL (p := 7) rfl)) HB.out ⟨by omega, by omega⟩).mono ?_; rintro e w ⟨u4, mr, mc, xs4, k4, rfl, hxl4, hk7, hk8, hrc4, T0⟩; obtain ⟨L, hM, T⟩ := st_name T0; clear T0; clear F S; (try rw [HL.out] at hM); clear HL; (try simp only [List.eraseIdx_cons_zero, List.eraseIdx_cons_succ] at hM); have HL := Lib.hid hM; clear hM; have S := T; clear T; have F := factsAll HL S; (try simp only [factsOf, cellsFrom, and_true, true_and, Nat.reduceAdd] at F)); clear hrc4; obtain ⟨A', cap', rfl, hcap', hmax'⟩ := S.sliceOf (atOf HL (p := 0) rfl))); (refine hK.out _ _ ?_ ?_; (focus (first | exact fun _ => S | (intro _; refine S.sub (subL HL0 HL ?_); (repeat (first | exact List.Sublist.refl _ | apply List.Sublist.cons)); done) | (refine sink_no ?_; kernel_rfl))); clear hK K; (try simp only [Act.put, List.setIfInBounds_toArray, List.set_cons_zero, List.set_cons_succ]))))
    refine tree_fin ?_
    go_wp2
    refine ret2 rfl (resCell S HL 2 rfl rfl (by kernel_rfl)) (resCell S HL 3 rfl rfl (by kernel_rfl)) rfl ?_
    exact drawn_lymx S HFW.out hxl4 (by rw [HL.out]; intro e he; simp [he]) (by rw [HL.out]; exact List.mem_cons_self)
  · rw [HL.out] at S
    have T1 := S.front (p := 2) (show At _ 2 _ from rfl)
    simp only [List.eraseIdx_cons_succ, List.eraseIdx_cons_zero] at T1
    have T2 := T1.front (p := 3) (show At _ 3 _ from rfl)
    simp only [List.eraseIdx_cons_succ, List.eraseIdx_cons_zero] at T2
    have T3 := T2.front (p := 2) (show At _ 2 _ from rfl)
    simp only [List.eraseIdx_cons_succ, List.eraseIdx_cons_zero] at T3
    clear S HL F T1 T2
    have S := T3
    clear T3
    obtain ⟨L, hM, T⟩ := st_name S; clear S; have S := T; clear T; have HL := Lib.hid hM; clear hM; have F := factsAll HL S; (try simp only [factsOf, cellsFrom, and_true, true_and, Nat.reduceAdd] at F)
    have hT := congrArg (List.drop 3) HL.out; simp only [List.drop_succ_cons, List.drop_zero] at hT; obtain ⟨L1, hL1⟩ : ∃ M, M = L.drop 3 := ⟨_, rfl⟩; rw [← hL1] at hT; have HL0 := Lib.hid hT; have S1 := S.sub (List.drop_sublist 3 L); rw [← hL1] at S1; have F0 := factsAll HL0 S1; (try simp only [factsOf, cellsFrom, and_true, true_and, Nat.reduceAdd] at F0); clear S1 hL1 hT; refine wp_region_tree (S := fun w' => St w0 w' L1) (.calm 0 (.calm 1 (.calm 2 (.calm 5 (.act 3 (.calm 4 (.act 6 (.act 7 (.act 8 .fin .stop) .stop) .stop)) .stop))))) (by kernel_rfl) (by kernel_rfl) (by kernel_rfl) (by intro c a d v w h; cases d <;> exact h) ?_; replace S := S.drew
    repeat (first | (first | (refine tree_calm (v := ?_) ?_ rfl (by decide +kernel) rfl ?_ ?_; rotate_left; (focus (first | exact S | (refine S.sub (subL HL0 HL ?_); (repeat (first | exact List.Sublist.refl _ | apply List.Sublist.cons)); done))); (focus (intro w' hS'; (try dsimp only at hS'); go_simp; try rfl)); (try simp only [Act.put, List.setIfInBounds_toArray, List.set_cons_zero, List.set_cons_succ])) | (refine tree_any (v := ?_) ?_ rfl rfl ?_ ?_; rotate_left; (focus (first | exact S | (refine S.sub (subL HL0 HL ?_); (repeat (first | exact List.Sublist.refl _ | apply List.Sublist.cons)); done))); (focus (intro w'; go_simp; try rfl)); (try simp only [Act.put, List.setIfInBounds_toArray, List.set_cons_zero, List.set_cons_succ]))) | (refine tree_skip ?_ rfl rfl ?_; (focus (first | exact S | (refine S.sub (subL HL0 HL ?_); (repeat (first | exact List.Sublist.refl _ | apply List.Sublist.cons)); done))); (try simp only [Act.put, List.setIfInBounds_toArray, List.set_cons_zero, List.set_cons_succ])) | (refine tree_act rfl rfl ?_ tree_stop; intro K hK; (refine wp_store_box S _ _ _ rfl 2 _ _ _ _ (atOf HL rfl) rfl _ rfl (by kernel_rfl) rfl rfl ?_; intro w L hM T; clear F S; (try rw [HL.out] at hM); clear HL; (try simp [Act.put, Act.eval, Value.cells, splice] at hM); have HL := Lib.hid hM; clear hM; have S := T; clear T; have F := factsAll HL S; (try simp only [factsOf, cellsFrom, and_true, true_and, Nat.reduceAdd] at F)); (refine hK.out _ _ ?_ ?_; (focus (first | exact fun _ => S | (intro _; refine S.sub (subL HL0 HL ?_); (repeat (first | exact List.Sublist.refl _ | apply List.Sublist.cons)); done) | (refine sink_no ?_; kernel_rfl))); clear hK K; (try simp only [Act.put, List.setIfInBounds_toArray, List.set_cons_zero, List.set_cons_succ]))) | (refine tree_act rfl rfl ?_ tree_stop; intro K hK; (refine wp_store_box S _ _ _ rfl 3 _ _ _ _ (atOf HL rfl) rfl _ rfl (by kernel_rfl) rfl rfl ?_; intro w L hM T; clear F S; (try rw [HL.out] at hM); clear HL; (try simp [Act.put, Act.eval, Value.cells, splice] at hM); have HL := Lib.hid hM; clear hM; have S := T; clear T; have F := factsAll HL S; (try simp only [factsOf, cellsFrom, and_true, true_and, Nat.reduceAdd] at F)); (refine hK.out _ _ ?_ ?_; (focus (first | exact fun _ => S | (intro _; refine S.sub (subL HL0 HL ?_); (repeat (first | exact List.Sublist.refl _ | apply List.Sublist.cons)); done) | (refine sink_no ?_; kernel_rfl))); clear hK K; (try simp only [Act.put, List.setIfInBounds_toArray, List.set_cons_zero, List.set_cons_succ]))) | (refine tree_act rfl rfl ?_ tree_stop; intro K hK; go_wp2_with (first | ((go_at_call 31; refine (C_pick _ _ _ _ _ w0 _ (S.front (by first | exact atOf HL (p := 0) rfl | exact atOf HL (p := 1) rfl | exact atOf HL (p := 2) rfl | exact atOf HL (p := 3) rfl | exact atOf HL (p := 4) rfl | exact atOf HL (p := 5) rfl | exact atOf HL (p := 6) rfl | exact atOf HL (p := 7) rfl)) HB.out ⟨by omega, by omega⟩).mono ?_; rintro e w ⟨y, rfl, hy0, T0⟩; obtain ⟨L, hM, T⟩ := st_name T0; clear T0; clear F S; (try rw [HL.out] at hM); clear HL; (try simp only [List.eraseIdx_cons_zero, List.eraseIdx_cons_succ] at hM); have HL := Lib.hid hM; clear hM; have S := T; clear T; have F := factsAll HL S; (try simp only [factsOf, cellsFrom, and_true, true_and, Nat.reduceAdd] at F)); have hy := hy0 (by omega); clear hy0; obtain ⟨j, hj, hjw, hj1, hj2⟩ := pick_one hy; clear hy) | ((go_at_call 34; refine (C_l20MatrixG _ _ _ _ _ _ _ w0 _ ⟨⟨by omega, by omega⟩, by omega, by omega⟩ (by omega) (S.front (by first | exact atOf HL (p := 0) rfl | exact atOf HL (p := 1) rfl | exact atOf HL (p := 2) rfl | exact atOf HL (p := 3) rfl | exact atOf HL (p := 4) rfl | exact atOf HL (p := 5) rfl | exact atOf HL (p := 6) rfl | exact atOf HL (p := 7) rfl)) HB.out ⟨by omega, by omega⟩).mono ?_; rintro e w ⟨u4, mr, mc, xs4, k4, rfl, hxl4, hk7, hk8, hrc4, T0⟩; obtain ⟨L, hM, T⟩ := st_name T0; clear T0; clear F S; (try rw [HL.out] at hM); clear HL; (try simp only [List.eraseIdx_cons_zero, List.eraseIdx_cons_succ] at hM); have HL := Lib.hid hM; clear hM; have S := T; clear T; have F := factsAll HL S; (try simp only [factsOf, cellsFrom, and_true, true_and, Nat.reduceAdd] at F)); clear hrc4; obtain ⟨A', cap', rfl, hcap', hmax'⟩ := S.sliceOf (atOf HL (p := 0) rfl))); (refine hK.out _ _ ?_ ?_; (focus (first | exact fun _ => S | (intro _; refine S.sub (subL HL0 HL ?_); (repeat (first | exact List.Sublist.refl _ | apply List.Sublist.cons)); done) | (refine sink_no ?_; kernel_rfl))); clear hK K; (try simp only [Act.put, List.setIfInBounds_toArray, List.set_cons_zero, List.set_cons_succ]))))
    refine tree_fin ?_
    go_wp2
    refine ret2 rfl (resCell S HL 2 rfl rfl (by kernel_rfl)) (resCell S HL 3 rfl rfl (by kernel_rfl)) rfl ?_
    exact drawn_lymx S HFW.out hxl4 (by rw [HL.out]; intro e he; simp [he]) (by rw [HL.out]; exact List.mem_cons_self)

/-! ### Proved here: mixing keeps the sides, and equal rows stay equal. -/
open Go Go.RowKit Go.ChangeShapes Go.WideShapes Go.ChangeAt
theorem plainMix_case {l : Ly} {x t : Mx} (ht : plainMix l x = t) : t = Mx.zero ∨ ∃ (X Z : Nat) (xs zs : List Int), x = ⟨X, Z, xs⟩ ∧ t = ⟨X, Z, zs⟩ ∧ (1 ≤ X ∧ X ≤ 5) ∧ (1 ≤ Z ∧ Z ≤ 5) ∧ xs.length = X * Z ∧ zs.length = X * Z ∧ zs.all rv = true ∧
    ∀ r, r < X → (∀ c, c < Z → xs.getD (r * Z + c) 0 = xs.getD c 0) → ∀ c, c < Z → zs.getD (r * Z + c) 0 = zs.getD c 0 := by
  cases hok : l.ok with
  | false => exact .inl (ht.symm.trans (plainMix_bad hok))
  | true =>
    cases hv : x.ok with
    | false => exact .inl (ht.symm.trans (plainMix_x hv))
    | true =>
      cases Ly.ok_case hok with
      | dense w d hd => exact .inl ht.symm
      | ramp => exact .inl ht.symm
      | mix a b c hd =>
        have hd' := hd
        simp only [mixFit, Bool.and_eq_true] at hd'
        have oka := hd'.1.1.1.1.1
        have okb := hd'.1.1.1.1.2
        have okc := hd'.1.1.1.2
        obtain ⟨Y, xa, xb, xc, y1, y2, rfl, rfl, rfl, la, lb, lc, aa, ab, ac⟩ := mix_parts hd
        obtain ⟨X, Z, N, e0, x1, x2, z1, z2, hXZ, hN, hN2, hall⟩ := Mx.ok_nat hv
        unfold plainMix at ht
        dsimp only at ht
        split at ht
        · rename_i hc
          simp only [Bool.and_eq_true, decide_eq_true_eq] at hc
          obtain ⟨r, c, xs⟩ := x
          dsimp only at e0 hc hN hall
          simp only [Mx.mk.injEq, and_true] at e0
          obtain ⟨rfl, rfl⟩ := e0
          obtain rfl : Z = Y := by omega
          have hm := mixRun_eq (a := xa) (b := xb) (c := xc) x1 x2 z1 z2 (hN.trans hXZ.symm) hall
          rw [hm] at ht
          refine .inr ⟨X, Z, xs, _, rfl, ht.symm, ⟨x1, x2⟩, ⟨z1, z2⟩, hN.trans hXZ.symm, cutV_len _ _ _ _ _, cutV_all _ _ _ _ _, fun r hr heq c hc => ?_⟩
          have hrow := rowEq_mix (w0 := ⟨Z, Z, xa⟩) (w1 := ⟨Z, Z, xb⟩) (w2 := ⟨Z, Z, xc⟩) (x := ⟨X, Z, xs⟩) (r := r) oka okb okc hv hr heq
          rw [hm] at hrow
          exact hrow c hc
        · exact .inl ht.symm
set_option maxHeartbeats 8000000
set_option maxRecDepth 20000
theorem C_sameMx (r c : Int) (xs : List Int) (u v : Value) (w0 : World) (hu : Ints w0 u xs) (hv : Ints w0 v xs) :
    Calls Try.prog 9 #[.agg #[.int .i64 r, .int .i64 c, u], .agg #[.int .i64 r, .int .i64 c, v]] w0 fun e w' => e = .returned (.bool true) ∧ Below w0.heap.size w0 w' := by
  obtain ⟨L, HL, S⟩ := st_start w0; have F : True := trivial
  go_enter Try.func9, Try.ntmps9
  go_upto_region 1 with (first | (refine wpList_box rfl S _ _ rfl ?_; intro g w L hM T; clear F S; (try rw [HL.out] at hM); clear HL; (try simp [Act.put, Act.eval, Value.cells, splice] at hM); have HL := Lib.hid hM; clear hM; have S := T; clear T; have F := factsAll HL S; (try simp only [factsOf, cellsFrom, and_true, true_and, Nat.reduceAdd] at F)))
  go_wp2_with (first | (go_at_call 36; refine (C_sameInts _ _ xs _ (hu.at_ S) (hv.at_ S)).mono ?_; rintro e w ⟨rfl, hb⟩; replace S := S.grow hb; clear hb))
  go_ret
  exact ⟨rfl, S.below⟩
theorem L_FnPlainMix (v : Value) (w0 : World) (h : Bytes w0 v) : Calls Try.prog 3 #[v] w0 fun e w' => e = .returned (.bool true) ∧ Below w0.heap.size w0 w' := by
  have HB0 := Lib.hid h
  obtain ⟨A, n, cap, rfl, hcap, hmax, _⟩ := h
  unfold maxLen at hmax
  by_cases hbig : n > 1048576
  · obtain ⟨L, HL, S⟩ := st_start w0; have F : True := trivial
    go_enter Try.func3, Try.ntmps3
    go_wp2_with (first | (refine wpList_box rfl S _ _ rfl ?_; intro g w L hM T; clear F S; (try rw [HL.out] at hM); clear HL; (try simp [Act.put, Act.eval, Value.cells, splice] at hM); have HL := Lib.hid hM; clear hM; have S := T; clear T; have F := factsAll HL S; (try simp only [factsOf, cellsFrom, and_true, true_and, Nat.reduceAdd] at F))  | (refine wpList_store_box rfl S _ _ _ rfl 0 _ _ _ _ (atOf HL rfl) rfl _ rfl (by kernel_rfl) rfl rfl ?_; intro w L hM T; clear F S; (try rw [HL.out] at hM); clear HL; (try simp [Act.put, Act.eval, Value.cells, splice] at hM); have HL := Lib.hid hM; clear hM; have S := T; clear T; have F := factsAll HL S; (try simp only [factsOf, cellsFrom, and_true, true_and, Nat.reduceAdd] at F)) | (refine wpList_store_box rfl S _ _ _ rfl 1 _ _ _ _ (atOf HL rfl) rfl _ rfl (by kernel_rfl) rfl rfl ?_; intro w L hM T; clear F S; (try rw [HL.out] at hM); clear HL; (try simp [Act.put, Act.eval, Value.cells, splice] at hM); have HL := Lib.hid hM; clear hM; have S := T; clear T; have F := factsAll HL S; (try simp only [factsOf, cellsFrom, and_true, true_and, Nat.reduceAdd] at F)) | (refine wpList_store_box rfl S _ _ _ rfl 2 _ _ _ _ (atOf HL rfl) rfl _ rfl (by kernel_rfl) rfl rfl ?_; intro w L hM T; clear F S; (try rw [HL.out] at hM); clear HL; (try simp [Act.put, Act.eval, Value.cells, splice] at hM); have HL := Lib.hid hM; clear hM; have S := T; clear T; have F := factsAll HL S; (try simp only [factsOf, cellsFrom, and_true, true_and, Nat.reduceAdd] at F)) | (refine wpList_store_box rfl S _ _ _ rfl 3 _ _ _ _ (atOf HL rfl) rfl _ rfl (by kernel_rfl) rfl rfl ?_; intro w L hM T; clear F S; (try rw [HL.out] at hM); clear HL; (try simp [Act.put, Act.eval, Value.cells, splice] at hM); have HL := Lib.hid hM; clear hM; have S := T; clear T; have F := factsAll HL S; (try simp only [factsOf, cellsFrom, and_true, true_and, Nat.reduceAdd] at F))  )
    go_ret
    exact ⟨rfl, S.below⟩
  obtain ⟨L, HL, S⟩ := st_start w0; have F : True := trivial
  go_enter Try.func3, Try.ntmps3
  go_upto_region 4 with (first | (go_at_call 7; refine (C_DrawPlainMix _ _ (HB0.out.below S.below)).mono ?_; rintro e w0 ⟨l, x, v, u, rfl, hf, hxl, hs, hx, hb⟩; have HBB := Lib.hid (S.below.trans (hb.mono S.below.size)); clear S HL F hb; obtain ⟨kind, ms⟩ := l; obtain ⟨r, c, xs⟩ := x; have HS := Lib.hid hs; have HX := Lib.hid hx; obtain ⟨B, cb, rfl, hcb, hmb, _⟩ := hs; obtain ⟨hlx, B2, cb2, rfl, hcb2, hmb2, hA2⟩ := hx; obtain ⟨L, HL, S⟩ := st_start w0; have F : True := trivial) | (refine wpList_alloc rfl S 25 _ rfl zLy ?_; intro gl w L hM T; clear F S; (try rw [HL.out] at hM); clear HL; (try simp [Act.put, Act.eval, Value.cells, splice] at hM); have HL := Lib.hid hM; clear hM; have S := T; clear T; have F := factsAll HL S; (try simp only [factsOf, cellsFrom, and_true, true_and, Nat.reduceAdd] at F)) | (refine wpList_alloc rfl S 28 _ rfl zMx ?_; intro gx w L hM T; clear F S; (try rw [HL.out] at hM); clear HL; (try simp [Act.put, Act.eval, Value.cells, splice] at hM); have HL := Lib.hid hM; clear hM; have S := T; clear T; have F := factsAll HL S; (try simp only [factsOf, cellsFrom, and_true, true_and, Nat.reduceAdd] at F)) | (refine wpList_store_box rfl S _ _ _ rfl 0 _ _ _ _ (atOf HL rfl) rfl _ rfl (by kernel_rfl) rfl rfl ?_; intro w L hM T; clear F S; (try rw [HL.out] at hM); clear HL; (try simp [Act.put, Act.eval, Value.cells, splice] at hM); have HL := Lib.hid hM; clear hM; have S := T; clear T; have F := factsAll HL S; (try simp only [factsOf, cellsFrom, and_true, true_and, Nat.reduceAdd] at F)) | (refine wpList_store_box rfl S _ _ _ rfl 1 _ _ _ _ (atOf HL rfl) rfl _ rfl (by kernel_rfl) rfl rfl ?_; intro w L hM T; clear F S; (try rw [HL.out] at hM); clear HL; (try simp [Act.put, Act.eval, Value.cells, splice] at hM); have HL := Lib.hid hM; clear hM; have S := T; clear T; have F := factsAll HL S; (try simp only [factsOf, cellsFrom, and_true, true_and, Nat.reduceAdd] at F)))
  have hf1 : ms.length ≤ 4 := hf.1
  have hf2 : ∀ m ∈ ms, m.xs.length ≤ 26 := hf.2
  have hxl1 : xs.length ≤ 26 := hxl
  (try dsimp only at HS HX hcb hcb2 hlx hA2)
  obtain ⟨t, ht⟩ : ∃ t, plainMix ⟨kind, ms⟩ ⟨r, c, xs⟩ = t := ⟨_, rfl⟩
  have CI := fun v u w h hx => C_impl_PlainMix ⟨kind, ms⟩ ⟨r, c, xs⟩ t v u w h hx ht
  have CS := fun v u w h hx => C_spec_PlainMix ⟨kind, ms⟩ ⟨r, c, xs⟩ t v u w h hx (show ms.length ≤ 1048576 by omega) (fun m hm => by have := hf2 m hm; omega) (show xs.length ≤ 1048576 by omega) ht
  unfold MakesMx at CI CS
  (try dsimp only at CI CS)
  have hcase := plainMix_case ht
  rcases hcase with h0 | ⟨X, Z, xs', zs, ex, et, ⟨x1, x2⟩, ⟨z1, z2⟩, lx, lz, az, heq⟩
  · subst h0
    dsimp only [Mx.zero] at CI CS
    clear ht hf hxl hf1 hf2 hxl1 hlx hA2
    go_upto_region 5 with (first | (refine wpList_alloc rfl S 28 _ rfl zMx ?_; intro g5 w L hM T; clear F S; (try rw [HL.out] at hM); clear HL; (try simp [Act.put, Act.eval, Value.cells, splice] at hM); have HL := Lib.hid hM; clear hM; have S := T; clear T; have F := factsAll HL S; (try simp only [factsOf, cellsFrom, and_true, true_and, Nat.reduceAdd] at F)) | (refine wpList_store_box rfl S _ _ _ rfl 0 _ _ _ _ (atOf HL rfl) rfl _ rfl (by kernel_rfl) rfl rfl ?_; intro w L hM T; clear F S; (try rw [HL.out] at hM); clear HL; (try simp [Act.put, Act.eval, Value.cells, splice] at hM); have HL := Lib.hid hM; clear hM; have S := T; clear T; have F := factsAll HL S; (try simp only [factsOf, cellsFrom, and_true, true_and, Nat.reduceAdd] at F)) | (go_at_call 8; refine (CI _ _ _ (HS.out.at_ S) (HX.out.at_ S)).mono ?_; rintro e w ⟨u, rfl, T0⟩; obtain ⟨L, hM, T⟩ := st_name (S.call T0); clear T0; clear F S; (try rw [HL.out] at hM); clear HL; (try simp [Act.put, Act.eval, Value.cells, splice] at hM); have HL := Lib.hid hM; clear hM; have S := T; clear T; have F := factsAll HL S; (try simp only [factsOf, cellsFrom, and_true, true_and, Nat.reduceAdd] at F); obtain ⟨A', cap', rfl, hcap', hmax'⟩ := S.sliceOf (atOf HL (p := 0) rfl)))
    have HL0 := HL; have F0 := F; refine wp_region_tree (S := fun w' => St w0 w' L) (.calm 0 (.calm 1 (.calm 2 (.act 3 (.act 4 (.calm 5 .fin) .stop) .stop)))) (by kernel_rfl) (by kernel_rfl) (by kernel_rfl) (by intro c a d v w h; cases d <;> exact h) ?_; replace S := S.drew
    repeat (first | (first | (refine tree_calm (v := ?_) ?_ rfl (by decide +kernel) rfl ?_ ?_; rotate_left; (focus (first | exact S | (refine S.sub (subL HL0 HL ?_); (repeat (first | exact List.Sublist.refl _ | exact List.nil_sublist _ | exact List.sublist_append_left _ _ | apply List.Sublist.cons_cons | apply List.Sublist.cons)); done))); (focus (intro w' hS'; (try dsimp only at hS'); go_simp; try rfl)); (try simp only [Act.put, List.setIfInBounds_toArray, List.set_cons_zero, List.set_cons_succ])) | (refine tree_any (v := ?_) ?_ rfl rfl ?_ ?_; rotate_left; (focus (first | exact S | (refine S.sub (subL HL0 HL ?_); (repeat (first | exact List.Sublist.refl _ | exact List.nil_sublist _ | exact List.sublist_append_left _ _ | apply List.Sublist.cons_cons | apply List.Sublist.cons)); done))); (focus (intro w'; go_simp; try rfl)); (try simp only [Act.put, List.setIfInBounds_toArray, List.set_cons_zero, List.set_cons_succ]))) | (refine tree_skip ?_ rfl rfl ?_; (focus (first | exact S | (refine S.sub (subL HL0 HL ?_); (repeat (first | exact List.Sublist.refl _ | exact List.nil_sublist _ | exact List.sublist_append_left _ _ | apply List.Sublist.cons_cons | apply List.Sublist.cons)); done))); (try simp only [Act.put, List.setIfInBounds_toArray, List.set_cons_zero, List.set_cons_succ])) | (refine tree_act rfl rfl ?_ tree_stop; intro K hK; go_wp2_with (first | (go_at_call 10; refine (CS _ _ _ (HS.out.at_ S) (HX.out.at_ S)).mono ?_; rintro e w ⟨u, rfl, T0⟩; obtain ⟨L, hM, T⟩ := st_name (S.call T0); clear T0; clear F S; (try rw [HL.out] at hM); clear HL; (try simp [Act.put, Act.eval, Value.cells, splice] at hM); have HL := Lib.hid hM; clear hM; have S := T; clear T; have F := factsAll HL S; (try simp only [factsOf, cellsFrom, and_true, true_and, Nat.reduceAdd] at F); obtain ⟨A', cap', rfl, hcap', hmax'⟩ := S.sliceOf (atOf HL (p := 0) rfl)) | (go_at_call 9; refine (C_sameMx _ _ _ _ _ _ (by exact (Sees.row S (by first | exact atOf HL (p := 0) rfl | exact atOf HL (p := 1) rfl | exact atOf HL (p := 2) rfl | exact atOf HL (p := 3) rfl | exact atOf HL (p := 4) rfl | exact atOf HL (p := 5) rfl | exact atOf HL (p := 6) rfl | exact atOf HL (p := 7) rfl | exact atOf HL (p := 8) rfl | exact atOf HL (p := 9) rfl | exact atOf HL (p := 10) rfl | exact atOf HL (p := 11) rfl | exact atOf HL (p := 12) rfl | exact atOf HL (p := 13) rfl | exact atOf HL (p := 14) rfl | exact atOf HL (p := 15) rfl | exact atOf HL (p := 16) rfl | exact atOf HL (p := 17) rfl | exact atOf HL (p := 18) rfl | exact atOf HL (p := 19) rfl | exact atOf HL (p := 20) rfl | exact atOf HL (p := 21) rfl | exact atOf HL (p := 22) rfl | exact atOf HL (p := 23) rfl | exact atOf HL (p := 24) rfl | exact atOf HL (p := 25) rfl | exact atOf HL (p := 26) rfl | exact atOf HL (p := 27) rfl | exact atOf HL (p := 28) rfl | exact atOf HL (p := 29) rfl | exact atOf HL (p := 30) rfl | exact atOf HL (p := 31) rfl | exact atOf HL (p := 32) rfl | exact atOf HL (p := 33) rfl | exact atOf HL (p := 34) rfl | exact atOf HL (p := 35) rfl | exact atOf HL (p := 36) rfl | exact atOf HL (p := 37) rfl | exact atOf HL (p := 38) rfl | exact atOf HL (p := 39) rfl)).ints) (by exact (Sees.row S (by first | exact atOf HL (p := 0) rfl | exact atOf HL (p := 1) rfl | exact atOf HL (p := 2) rfl | exact atOf HL (p := 3) rfl | exact atOf HL (p := 4) rfl | exact atOf HL (p := 5) rfl | exact atOf HL (p := 6) rfl | exact atOf HL (p := 7) rfl | exact atOf HL (p := 8) rfl | exact atOf HL (p := 9) rfl | exact atOf HL (p := 10) rfl | exact atOf HL (p := 11) rfl | exact atOf HL (p := 12) rfl | exact atOf HL (p := 13) rfl | exact atOf HL (p := 14) rfl | exact atOf HL (p := 15) rfl | exact atOf HL (p := 16) rfl | exact atOf HL (p := 17) rfl | exact atOf HL (p := 18) rfl | exact atOf HL (p := 19) rfl | exact atOf HL (p := 20) rfl | exact atOf HL (p := 21) rfl | exact atOf HL (p := 22) rfl | exact atOf HL (p := 23) rfl | exact atOf HL (p := 24) rfl | exact atOf HL (p := 25) rfl | exact atOf HL (p := 26) rfl | exact atOf HL (p := 27) rfl | exact atOf HL (p := 28) rfl | exact atOf HL (p := 29) rfl | exact atOf HL (p := 30) rfl | exact atOf HL (p := 31) rfl | exact atOf HL (p := 32) rfl | exact atOf HL (p := 33) rfl | exact atOf HL (p := 34) rfl | exact atOf HL (p := 35) rfl | exact atOf HL (p := 36) rfl | exact atOf HL (p := 37) rfl | exact atOf HL (p := 38) rfl | exact atOf HL (p := 39) rfl)).ints)).mono ?_; rintro e w ⟨rfl, hb⟩; replace S := S.grow hb; clear hb)); (refine hK.out _ _ ?_ ?_; (focus (first | exact fun _ => S | (intro _; refine S.sub (subL HL0 HL ?_); (repeat (first | exact List.Sublist.refl _ | exact List.nil_sublist _ | exact List.sublist_append_left _ _ | apply List.Sublist.cons_cons | apply List.Sublist.cons)); done) | (refine sink_no ?_; kernel_rfl))); clear hK K; (try simp only [Act.put, List.setIfInBounds_toArray, List.set_cons_zero, List.set_cons_succ]))))
    refine tree_fin ?_
    (have T := S.sub (subL HL0 HL (by (repeat (first | exact List.Sublist.refl _ | exact List.nil_sublist _ | exact List.sublist_append_left _ _ | apply List.Sublist.cons_cons | apply List.Sublist.cons)); done)); obtain ⟨L, hM, T'⟩ := st_name T; clear S HL F T; have HL := Lib.hid (hM.trans HL0.out); clear hM HL0 F0; have S := T'; clear T'; have F := factsAll HL S; (try simp only [factsOf, cellsFrom, and_true, true_and, Nat.reduceAdd] at F))
    go_wp2_with (first | (go_at_call 11; refine (C_alive _).mono ?_; rintro e w' ⟨rfl, rfl⟩))
    go_ret
    exact ⟨rfl, HBB.out.trans (S.below.mono HBB.out.size)⟩
  · obtain ⟨rfl, rfl, rfl⟩ : r = X ∧ c = Z ∧ xs = xs' := by injection ex with e1 e2 e3; exact ⟨e1, e2, e3⟩
    subst et
    (try dsimp only at CI CS)
    clear ex
    have HV := Lib.hid (Mx.ok_of x1 x2 z1 z2 lz az)
    have p0 : 0 < X * Z := Nat.mul_pos x1 z1
    obtain ⟨bx, ox, rfl, hbx, hcx⟩ := hA2 (by omega)
    have HCX := Lib.hid hcx
    have HEQ := Lib.hid heq
    have b0 : X * Z ≤ 25 := by
      have : X * Z ≤ 5 * 5 := Nat.mul_le_mul x2 z2
      omega
    obtain ⟨N, hN⟩ : ∃ N, X * Z = N := ⟨_, rfl⟩
    rw [hN] at lx lz p0 b0
    have HN := Lib.hid hN
    have HLX := Lib.hid lx
    have HLZ := Lib.hid lz
    rw [lx] at hcb2
    rw [lz] at CI CS
    have HXX := HX
    rw [lx] at HXX
    rw [lx] at HL F ⊢
    clear ht hf hxl hf1 hf2 hxl1 hlx hA2 hcx heq lx lz hN HX
    go_upto_region 5 with (first | (refine wpList_alloc rfl S 28 _ rfl zMx ?_; intro g5 w L hM T; clear F S; (try rw [HL.out] at hM); clear HL; (try simp [Act.put, Act.eval, Value.cells, splice] at hM); have HL := Lib.hid hM; clear hM; have S := T; clear T; have F := factsAll HL S; (try simp only [factsOf, cellsFrom, and_true, true_and, Nat.reduceAdd] at F)) | (refine wpList_store_box rfl S _ _ _ rfl 0 _ _ _ _ (atOf HL rfl) rfl _ rfl (by kernel_rfl) rfl rfl ?_; intro w L hM T; clear F S; (try rw [HL.out] at hM); clear HL; (try simp [Act.put, Act.eval, Value.cells, splice] at hM); have HL := Lib.hid hM; clear hM; have S := T; clear T; have F := factsAll HL S; (try simp only [factsOf, cellsFrom, and_true, true_and, Nat.reduceAdd] at F)) | (go_at_call 8; refine (CI _ _ _ (HS.out.at_ S) (HXX.out.at_ S)).mono ?_; rintro e w ⟨u, rfl, T0⟩; obtain ⟨L, hM, T⟩ := st_name (S.call T0); clear T0; clear F S; (try rw [HL.out] at hM); clear HL; (try simp [Act.put, Act.eval, Value.cells, splice] at hM); have HL := Lib.hid hM; clear hM; have S := T; clear T; have F := factsAll HL S; (try simp only [factsOf, cellsFrom, and_true, true_and, Nat.reduceAdd] at F); obtain ⟨A', cap', rfl, hcap', hmax'⟩ := S.sliceOf (atOf HL (p := 0) rfl)))
    have HL0 := HL; have F0 := F; refine wp_region_tree (S := fun w' => St w0 w' L) (.calm 0 (.calm 1 (.calm 2 (.act 3 (.act 4 (.calm 5 .fin) .stop) .stop)))) (by kernel_rfl) (by kernel_rfl) (by kernel_rfl) (by intro c a d v w h; cases d <;> exact h) ?_; replace S := S.drew
    repeat (first | (first | (refine tree_calm (v := ?_) ?_ rfl (by decide +kernel) rfl ?_ ?_; rotate_left; (focus (first | exact S | (refine S.sub (subL HL0 HL ?_); (repeat (first | exact List.Sublist.refl _ | exact List.nil_sublist _ | exact List.sublist_append_left _ _ | apply List.Sublist.cons_cons | apply List.Sublist.cons)); done))); (focus (intro w' hS'; (try dsimp only at hS'); go_simp; try rfl)); (try simp only [Act.put, List.setIfInBounds_toArray, List.set_cons_zero, List.set_cons_succ])) | (refine tree_any (v := ?_) ?_ rfl rfl ?_ ?_; rotate_left; (focus (first | exact S | (refine S.sub (subL HL0 HL ?_); (repeat (first | exact List.Sublist.refl _ | exact List.nil_sublist _ | exact List.sublist_append_left _ _ | apply List.Sublist.cons_cons | apply List.Sublist.cons)); done))); (focus (intro w'; go_simp; try rfl)); (try simp only [Act.put, List.setIfInBounds_toArray, List.set_cons_zero, List.set_cons_succ]))) | (refine tree_skip ?_ rfl rfl ?_; (focus (first | exact S | (refine S.sub (subL HL0 HL ?_); (repeat (first | exact List.Sublist.refl _ | exact List.nil_sublist _ | exact List.sublist_append_left _ _ | apply List.Sublist.cons_cons | apply List.Sublist.cons)); done))); (try simp only [Act.put, List.setIfInBounds_toArray, List.set_cons_zero, List.set_cons_succ])) | (refine tree_act rfl rfl ?_ tree_stop; intro K hK; go_wp2_with (first | (go_at_call 10; refine (CS _ _ _ (HS.out.at_ S) (HXX.out.at_ S)).mono ?_; rintro e w ⟨u, rfl, T0⟩; obtain ⟨L, hM, T⟩ := st_name (S.call T0); clear T0; clear F S; (try rw [HL.out] at hM); clear HL; (try simp [Act.put, Act.eval, Value.cells, splice] at hM); have HL := Lib.hid hM; clear hM; have S := T; clear T; have F := factsAll HL S; (try simp only [factsOf, cellsFrom, and_true, true_and, Nat.reduceAdd] at F); obtain ⟨A', cap', rfl, hcap', hmax'⟩ := S.sliceOf (atOf HL (p := 0) rfl)) | (go_at_call 9; refine (C_sameMx _ _ zs _ _ _ (by unfold Ints; rw [HLZ.out]; exact (Sees.row S (by first | exact atOf HL (p := 0) rfl | exact atOf HL (p := 1) rfl | exact atOf HL (p := 2) rfl | exact atOf HL (p := 3) rfl | exact atOf HL (p := 4) rfl | exact atOf HL (p := 5) rfl | exact atOf HL (p := 6) rfl | exact atOf HL (p := 7) rfl | exact atOf HL (p := 8) rfl | exact atOf HL (p := 9) rfl | exact atOf HL (p := 10) rfl | exact atOf HL (p := 11) rfl | exact atOf HL (p := 12) rfl | exact atOf HL (p := 13) rfl | exact atOf HL (p := 14) rfl | exact atOf HL (p := 15) rfl | exact atOf HL (p := 16) rfl | exact atOf HL (p := 17) rfl | exact atOf HL (p := 18) rfl | exact atOf HL (p := 19) rfl | exact atOf HL (p := 20) rfl | exact atOf HL (p := 21) rfl | exact atOf HL (p := 22) rfl | exact atOf HL (p := 23) rfl | exact atOf HL (p := 24) rfl | exact atOf HL (p := 25) rfl | exact atOf HL (p := 26) rfl | exact atOf HL (p := 27) rfl | exact atOf HL (p := 28) rfl | exact atOf HL (p := 29) rfl | exact atOf HL (p := 30) rfl | exact atOf HL (p := 31) rfl | exact atOf HL (p := 32) rfl | exact atOf HL (p := 33) rfl | exact atOf HL (p := 34) rfl | exact atOf HL (p := 35) rfl | exact atOf HL (p := 36) rfl | exact atOf HL (p := 37) rfl | exact atOf HL (p := 38) rfl | exact atOf HL (p := 39) rfl))) (by unfold Ints; rw [HLZ.out]; exact (Sees.row S (by first | exact atOf HL (p := 0) rfl | exact atOf HL (p := 1) rfl | exact atOf HL (p := 2) rfl | exact atOf HL (p := 3) rfl | exact atOf HL (p := 4) rfl | exact atOf HL (p := 5) rfl | exact atOf HL (p := 6) rfl | exact atOf HL (p := 7) rfl | exact atOf HL (p := 8) rfl | exact atOf HL (p := 9) rfl | exact atOf HL (p := 10) rfl | exact atOf HL (p := 11) rfl | exact atOf HL (p := 12) rfl | exact atOf HL (p := 13) rfl | exact atOf HL (p := 14) rfl | exact atOf HL (p := 15) rfl | exact atOf HL (p := 16) rfl | exact atOf HL (p := 17) rfl | exact atOf HL (p := 18) rfl | exact atOf HL (p := 19) rfl | exact atOf HL (p := 20) rfl | exact atOf HL (p := 21) rfl | exact atOf HL (p := 22) rfl | exact atOf HL (p := 23) rfl | exact atOf HL (p := 24) rfl | exact atOf HL (p := 25) rfl | exact atOf HL (p := 26) rfl | exact atOf HL (p := 27) rfl | exact atOf HL (p := 28) rfl | exact atOf HL (p := 29) rfl | exact atOf HL (p := 30) rfl | exact atOf HL (p := 31) rfl | exact atOf HL (p := 32) rfl | exact atOf HL (p := 33) rfl | exact atOf HL (p := 34) rfl | exact atOf HL (p := 35) rfl | exact atOf HL (p := 36) rfl | exact atOf HL (p := 37) rfl | exact atOf HL (p := 38) rfl | exact atOf HL (p := 39) rfl)))).mono ?_; rintro e w ⟨rfl, hb⟩; replace S := S.grow hb; clear hb)); (refine hK.out _ _ ?_ ?_; (focus (first | exact fun _ => S | (intro _; refine S.sub (subL HL0 HL ?_); (repeat (first | exact List.Sublist.refl _ | exact List.nil_sublist _ | exact List.sublist_append_left _ _ | apply List.Sublist.cons_cons | apply List.Sublist.cons)); done) | (refine sink_no ?_; kernel_rfl))); clear hK K; (try simp only [Act.put, List.setIfInBounds_toArray, List.set_cons_zero, List.set_cons_succ]))))
    refine tree_fin ?_
    (have T := S.sub (subL HL0 HL (by (repeat (first | exact List.Sublist.refl _ | exact List.nil_sublist _ | exact List.sublist_append_left _ _ | apply List.Sublist.cons_cons | apply List.Sublist.cons)); done)); obtain ⟨L, hM, T'⟩ := st_name T; clear S HL F T; have HL := Lib.hid (hM.trans HL0.out); clear hM HL0 F0; have S := T'; clear T'; have F := factsAll HL S; (try simp only [factsOf, cellsFrom, and_true, true_and, Nat.reduceAdd] at F))
    obtain ⟨gn, cn, ev, hcn, hmn⟩ := S.rowAt (p := 1) (atOf HL rfl) p0
    rw [ev] at HL F ⊢
    clear ev CI CS
    have hX0 : ((X : Int) == 0) = false := by rw [beq_eq_false_iff_ne]; omega
    have hX1 : ¬ ((X : Int) = 0) := by omega
    go_wp2
    go_loopw [6] (fun i wr => ∃ (j : Nat), 1 ≤ j ∧ j ≤ X ∧ i = .int .i64 j ∧ St w0 wr L) (fun i _ => X - (intOf i).toNat)
    case atStart => exact ⟨1, Nat.le_refl _, x1, rfl, S⟩
    case round =>
      clear S
      obtain ⟨j, hj1, hj, rfl, S⟩ := hrel
      by_cases hlt : j < X
      · obtain ⟨m1, hm1⟩ : ∃ m1, j * Z = m1 := ⟨_, rfl⟩
        have HM1 := Lib.hid hm1
        have hm25 : m1 ≤ N := by rw [← hm1, ← HN.out]; exact Nat.mul_le_mul_right _ hj
        have v1 : IntKind.i64.wrap ((j : Int) * (Z : Int)) = (m1 : Int) := wrap_nat (by rw [← hm1, Int.natCast_mul]) (by omega)
        have hrow := HEQ.out j hlt
        rw [hm1] at hrow
        have HROW := Lib.hid hrow
        clear hm1 hrow
        go_wp2
        go_loopw [8, 7] (fun i s wr => ∃ (c : Nat) (b : Bool), c ≤ Z ∧ i = .int .i64 c ∧ s = .bool b ∧ Hid (b = true → ∀ q, q < c → xs.getD (m1 + q) 0 = xs.getD q 0) ∧ St w0 wr L) (fun i _ _ => Z - (intOf i).toNat)
        case atStart => exact ⟨0, true, Nat.zero_le _, rfl, rfl, Lib.hid (fun _ q hq => absurd hq (by omega)), S⟩
        case round =>
          clear S
          obtain ⟨c, b, hc, rfl, rfl, HB, S⟩ := hrel
          by_cases hlt2 : c < Z
          · have hpN : m1 + c < N := by rw [← HM1.out, ← HN.out]; exact cell_lt hlt hlt2
            have x0 := HCX.out (m1 + c) _ (ints_getD xs (m1 + c) (by rw [HLX.out]; exact hpN))
            have y0 := HCX.out c _ (ints_getD xs c (by rw [HLX.out]; omega))
            have v2 : IntKind.i64.wrap ((m1 : Int) + (c : Int)) = ((m1 + c : Nat) : Int) := wrap_nat (by omega) (by omega)
            have hcN : c < N := by omega
            obtain ⟨p, hp⟩ : ∃ p, m1 + c = p := ⟨_, rfl⟩
            rw [hp] at x0 v2 hpN
            have hxp : xs.getD p 0 = xs.getD (m1 + c) 0 := by rw [hp]
            clear hp
            have hpN' : (p : Int) < (N : Int) := by omega
            have hcN' : (c : Int) < (N : Int) := by omega
            generalize xs.getD p 0 = x at x0 hxp
            obtain ⟨y, hy⟩ : ∃ y, xs.getD c 0 = y := ⟨_, rfl⟩
            rw [hy] at y0
            have HXP := Lib.hid hxp
            have HYY := Lib.hid hy
            clear hxp hy
            have f0 := fun w' (S' : St w0 w' L) => (S'.below.cell (p := ⟨bx, ox + p, none⟩) hbx).trans x0
            have f1 := fun w' (S' : St w0 w' L) => (S'.below.cell (p := ⟨bx, ox + c, none⟩) hbx).trans y0
            go_upto_region 16 with fail
            cases b with
            | true =>
              have HL0 := HL; have F0 := F; refine wp_region_tree (S := fun w' => St w0 w' L) (.calm 0 (.calm 1 (.calm 2 (.calm 3 (.calm 4 (.calm 5 (.calm 6 (.calm 7 (.calm 8 (.calm 9 (.calm 10 (.calm 11 (.calm 12 (.calm 13 (.calm 14 (.calm 15 (.calm 16 (.calm 17 (.calm 18 (.calm 19 .fin)))))))))))))))))))) (by kernel_rfl) (by kernel_rfl) (by kernel_rfl) (by intro c a d v w h; cases d <;> exact h) ?_; replace S := S.drew
              repeat (first | (first | (refine tree_calm (v := ?_) ?_ rfl (by decide +kernel) rfl ?_ ?_; rotate_left; (focus (first | exact S | (refine S.sub (subL HL0 HL ?_); (repeat (first | exact List.Sublist.refl _ | apply List.Sublist.cons)); done))); (focus (intro w' hS'; (try dsimp only at hS'); go_simp; try rfl)); (try simp only [Act.put, List.setIfInBounds_toArray, List.set_cons_zero, List.set_cons_succ])) | (refine tree_any (v := ?_) ?_ rfl rfl ?_ ?_; rotate_left; (focus (first | exact S | (refine S.sub (subL HL0 HL ?_); (repeat (first | exact List.Sublist.refl _ | apply List.Sublist.cons)); done))); (focus (intro w'; go_simp; try rfl)); (try simp only [Act.put, List.setIfInBounds_toArray, List.set_cons_zero, List.set_cons_succ]))) | (refine tree_skip ?_ rfl rfl ?_; (focus (first | exact S | (refine S.sub (subL HL0 HL ?_); (repeat (first | exact List.Sublist.refl _ | apply List.Sublist.cons)); done))); (try simp only [Act.put, List.setIfInBounds_toArray, List.set_cons_zero, List.set_cons_succ])) | (refine tree_actSkip rfl rfl ?_ ?_ tree_stop; (focus (first | exact S | (refine S.sub (subL HL0 HL ?_); (repeat (first | exact List.Sublist.refl _ | apply List.Sublist.cons)); done))); (try simp only [Act.put, List.setIfInBounds_toArray, List.set_cons_zero, List.set_cons_succ])) | (refine tree_act rfl rfl ?_ tree_stop; intro K hK; go_wp2_with (first | fail); (refine hK.out _ _ ?_ ?_; (focus (first | exact fun _ => S | (intro _; refine S.sub (subL HL0 HL ?_); (repeat (first | exact List.Sublist.refl _ | apply List.Sublist.cons)); done) | (refine sink_no ?_; kernel_rfl))); clear hK K; (try simp only [Act.put, List.setIfInBounds_toArray, List.set_cons_zero, List.set_cons_succ]))))
              refine tree_fin ?_
              clear HL0 F0 f0 f1 v2
              go_wp2
              go_roundw
              case rel =>
                refine ⟨c + 1, (x == y), by omega, by go_num, rfl, Lib.hid (fun h q hq => ?_), S⟩
                rcases Nat.lt_or_ge q c with h1 | h1
                · exact HB.out rfl q h1
                · obtain rfl : q = c := by omega
                  rw [beq_iff_eq] at h
                  rw [← HXP.out, h, HYY.out]
              case measure => simp [intOf]; omega
            | false =>
              have HL0 := HL; have F0 := F; refine wp_region_tree (S := fun w' => St w0 w' L) (.calm 0 (.calm 1 (.calm 2 (.calm 3 (.calm 4 (.calm 5 (.calm 6 (.calm 7 (.calm 8 (.calm 9 (.calm 10 (.calm 11 (.calm 12 (.calm 13 (.calm 14 (.calm 15 (.calm 16 (.calm 17 (.calm 18 (.calm 19 .fin)))))))))))))))))))) (by kernel_rfl) (by kernel_rfl) (by kernel_rfl) (by intro c a d v w h; cases d <;> exact h) ?_; replace S := S.drew
              repeat (first | (first | (refine tree_calm (v := ?_) ?_ rfl (by decide +kernel) rfl ?_ ?_; rotate_left; (focus (first | exact S | (refine S.sub (subL HL0 HL ?_); (repeat (first | exact List.Sublist.refl _ | apply List.Sublist.cons)); done))); (focus (intro w' hS'; (try dsimp only at hS'); go_simp; try rfl)); (try simp only [Act.put, List.setIfInBounds_toArray, List.set_cons_zero, List.set_cons_succ])) | (refine tree_any (v := ?_) ?_ rfl rfl ?_ ?_; rotate_left; (focus (first | exact S | (refine S.sub (subL HL0 HL ?_); (repeat (first | exact List.Sublist.refl _ | apply List.Sublist.cons)); done))); (focus (intro w'; go_simp; try rfl)); (try simp only [Act.put, List.setIfInBounds_toArray, List.set_cons_zero, List.set_cons_succ]))) | (refine tree_skip ?_ rfl rfl ?_; (focus (first | exact S | (refine S.sub (subL HL0 HL ?_); (repeat (first | exact List.Sublist.refl _ | apply List.Sublist.cons)); done))); (try simp only [Act.put, List.setIfInBounds_toArray, List.set_cons_zero, List.set_cons_succ])) | (refine tree_actSkip rfl rfl ?_ ?_ tree_stop; (focus (first | exact S | (refine S.sub (subL HL0 HL ?_); (repeat (first | exact List.Sublist.refl _ | apply List.Sublist.cons)); done))); (try simp only [Act.put, List.setIfInBounds_toArray, List.set_cons_zero, List.set_cons_succ])) | (refine tree_act rfl rfl ?_ tree_stop; intro K hK; go_wp2_with (first | fail); (refine hK.out _ _ ?_ ?_; (focus (first | exact fun _ => S | (intro _; refine S.sub (subL HL0 HL ?_); (repeat (first | exact List.Sublist.refl _ | apply List.Sublist.cons)); done) | (refine sink_no ?_; kernel_rfl))); clear hK K; (try simp only [Act.put, List.setIfInBounds_toArray, List.set_cons_zero, List.set_cons_succ]))))
              refine tree_fin ?_
              clear HL0 F0 f0 f1 v2
              go_wp2
              go_roundw
              case rel => exact ⟨c + 1, false, by omega, by go_num, rfl, Lib.hid (fun h => absurd h (by simp)), S⟩
              case measure => simp [intOf]; omega
          · obtain rfl : c = Z := by omega
            cases b with
            | false =>
              go_wp2
              go_loopw [9] (fun i wr => i = .int .i64 0 ∧ St w0 wr L) (fun i _ => 0)
              case atStart => exact ⟨rfl, S⟩
              case round =>
                clear S
                obtain ⟨rfl, S⟩ := hrel
                go_wp2
                go_roundw
                case rel => exact ⟨j + 1, by omega, by omega, by go_num, S⟩
                case measure => simp [intOf]; omega
            | true =>
              have HR := Lib.hid (HROW.out (HB.out rfl))
              go_wp2
              go_loopw [9] (fun i wr => ∃ (k : Nat), k ≤ c ∧ i = .int .i64 k ∧ St w0 wr L) (fun i _ => c - (intOf i).toNat)
              case atStart => exact ⟨0, Nat.zero_le _, rfl, S⟩
              case round =>
                clear S
                obtain ⟨k, hk, rfl, S⟩ := hrel
                by_cases hlt3 : k < c
                · have hpN : m1 + k < N := by rw [← HM1.out, ← HN.out]; exact cell_lt hlt hlt3
                  have he := HR.out k hlt3
                  have x0 := ints_getD zs (m1 + k) (by rw [HLZ.out]; exact hpN)
                  have y0 := ints_getD zs k (by rw [HLZ.out]; omega)
                  have v2 : IntKind.i64.wrap ((m1 : Int) + (k : Int)) = ((m1 + k : Nat) : Int) := wrap_nat (by omega) (by omega)
                  have hkN : k < N := by omega
                  obtain ⟨p, hp⟩ : ∃ p, m1 + k = p := ⟨_, rfl⟩
                  rw [hp] at x0 v2 hpN he
                  clear hp
                  rw [he] at x0
                  generalize zs.getD k 0 = y at x0 y0
                  have hpN' : (p : Int) < (N : Int) := by omega
                  have hpN2 : ¬ ((N : Int) ≤ (p : Int)) := by omega
                  have hpN3 : ¬ N ≤ p := by omega
                  have hpN4 : decide ((N : Int) ≤ (p : Int)) = false := by simp; omega
                  have hkN' : (k : Int) < (N : Int) := by omega
                  have X0 := Lib.hid x0
                  have Y0 := Lib.hid y0
                  clear he x0 y0
                  go_upto_region 20 with fail
                  have f0 := fun w' (S' : St w0 w' L) => (S'.rowCell (p := 1) (atOf HL rfl) p (by omega)).trans X0.out
                  have f1 := fun w' (S' : St w0 w' L) => (S'.rowCell (p := 1) (atOf HL rfl) k (by omega)).trans Y0.out
                  have HL0 := HL; have F0 := F; refine wp_region_tree (S := fun w' => St w0 w' L) (.calm 0 (.calm 1 (.calm 2 (.calm 3 (.calm 4 (.calm 5 (.calm 6 (.calm 7 (.calm 8 (.calm 9 (.calm 10 (.calm 11 (.calm 12 (.calm 13 (.calm 14 (.calm 15 (.calm 16 (.calm 17 (.calm 18 (.calm 19 (.calm 20 (.calm 21 (.calm 22 (.calm 23 (.calm 24 (.calm 25 (.calm 26 (.calm 27 .fin)))))))))))))))))))))))))))) (by kernel_rfl) (by kernel_rfl) (by kernel_rfl) (by intro c a d v w h; cases d <;> exact h) ?_; replace S := S.drew
                  repeat (first | (first | (refine tree_calm (v := ?_) ?_ rfl (by decide +kernel) rfl ?_ ?_; rotate_left; (focus (first | exact S | (refine S.sub (subL HL0 HL ?_); (repeat (first | exact List.Sublist.refl _ | apply List.Sublist.cons)); done))); (focus (intro w' hS'; (try dsimp only at hS'); go_simp; try rfl)); (try simp only [Act.put, List.setIfInBounds_toArray, List.set_cons_zero, List.set_cons_succ])) | (refine tree_any (v := ?_) ?_ rfl rfl ?_ ?_; rotate_left; (focus (first | exact S | (refine S.sub (subL HL0 HL ?_); (repeat (first | exact List.Sublist.refl _ | apply List.Sublist.cons)); done))); (focus (intro w'; go_simp; try rfl)); (try simp only [Act.put, List.setIfInBounds_toArray, List.set_cons_zero, List.set_cons_succ]))) | (refine tree_skip ?_ rfl rfl ?_; (focus (first | exact S | (refine S.sub (subL HL0 HL ?_); (repeat (first | exact List.Sublist.refl _ | apply List.Sublist.cons)); done))); (try simp only [Act.put, List.setIfInBounds_toArray, List.set_cons_zero, List.set_cons_succ])) | (refine tree_actSkip rfl rfl ?_ ?_ tree_stop; (focus (first | exact S | (refine S.sub (subL HL0 HL ?_); (repeat (first | exact List.Sublist.refl _ | apply List.Sublist.cons)); done))); (try simp only [Act.put, List.setIfInBounds_toArray, List.set_cons_zero, List.set_cons_succ])) | (refine tree_act rfl rfl ?_ tree_stop; intro K hK; go_wp2_with (first | fail); (refine hK.out _ _ ?_ ?_; (focus (first | exact fun _ => S | (intro _; refine S.sub (subL HL0 HL ?_); (repeat (first | exact List.Sublist.refl _ | apply List.Sublist.cons)); done) | (refine sink_no ?_; kernel_rfl))); clear hK K; (try simp only [Act.put, List.setIfInBounds_toArray, List.set_cons_zero, List.set_cons_succ]))))
                  refine tree_fin ?_
                  clear HL0 F0 f0 f1 v2
                  go_wp2
                  go_roundw
                  case rel => exact ⟨k + 1, by omega, by go_num, S⟩
                  case measure => simp [intOf]; omega
                · obtain rfl : k = c := by omega
                  go_wp2
                  go_roundw
                  case rel => exact ⟨j + 1, by omega, by omega, by go_num, S⟩
                  case measure => simp [intOf]; omega
      · obtain rfl : j = X := by omega
        go_wp2_with (first | (go_at_call 12; refine (C_impl_MatrixValid _ _ zs _ _ _ (by unfold Ints; rw [HLZ.out]; exact (Sees.row S (by first | exact atOf HL (p := 0) rfl | exact atOf HL (p := 1) rfl | exact atOf HL (p := 2) rfl | exact atOf HL (p := 3) rfl | exact atOf HL (p := 4) rfl | exact atOf HL (p := 5) rfl | exact atOf HL (p := 6) rfl | exact atOf HL (p := 7) rfl | exact atOf HL (p := 8) rfl | exact atOf HL (p := 9) rfl | exact atOf HL (p := 10) rfl | exact atOf HL (p := 11) rfl | exact atOf HL (p := 12) rfl | exact atOf HL (p := 13) rfl | exact atOf HL (p := 14) rfl | exact atOf HL (p := 15) rfl | exact atOf HL (p := 16) rfl | exact atOf HL (p := 17) rfl | exact atOf HL (p := 18) rfl | exact atOf HL (p := 19) rfl | exact atOf HL (p := 20) rfl | exact atOf HL (p := 21) rfl | exact atOf HL (p := 22) rfl | exact atOf HL (p := 23) rfl | exact atOf HL (p := 24) rfl | exact atOf HL (p := 25) rfl | exact atOf HL (p := 26) rfl | exact atOf HL (p := 27) rfl | exact atOf HL (p := 28) rfl | exact atOf HL (p := 29) rfl | exact atOf HL (p := 30) rfl | exact atOf HL (p := 31) rfl | exact atOf HL (p := 32) rfl | exact atOf HL (p := 33) rfl | exact atOf HL (p := 34) rfl | exact atOf HL (p := 35) rfl | exact atOf HL (p := 36) rfl | exact atOf HL (p := 37) rfl | exact atOf HL (p := 38) rfl | exact atOf HL (p := 39) rfl))) (by exact HV.out)).mono ?_; rintro e w ⟨rfl, hb⟩; replace S := S.grow hb; clear hb))
        go_ret
        exact ⟨rfl, HBB.out.trans (S.below.mono HBB.out.size)⟩

set_option maxRecDepth 100000 in
theorem FnPlainMix_lifted (os : Os) (started : os.Started) (H : Type) (enc : TypeId × Value → H) :
    ReturnsInHanded {} Try.checked os 3 .any (Rows.fnPlainMixSpec.pre6 enc Try.prog Try.f3 Rows.fnPlainMixRow.domain false) (Rows.fnPlainMixSpec.post enc Try.prog Try.f3 false true false false) := by
  refine returnsInHanded_of_change (C := Try.checked) Try.ownKnob_ started (by kernel_rfl) Try.func3
    (ChangeSpec.witness6 (enc := enc) (C := Try.checked) false ⟨#[], #[.slice none 0 0], []⟩ 8 (by kernel_rfl) (by kernel_rfl) (by kernel_rfl) (by kernel_rfl)) ?_
  intro W base args ds gs before hval0 hW _ _
  have hval : ∀ (j : Nat) t v, Try.f3.params[j]? = some t → args[j]? = some v → Value.okWide Try.prog W .any base t v := hval0
  have hW' := hW
  obtain ⟨p, q, hA0, hV, rfl, _, _⟩ := hW
  have hA : DataW.TrodAll enc Try.prog W 0 (fun _ => true) true Try.f3.params.toList args.toList ds p := hA0
  rw [Try.params3] at hA hval
  obtain ⟨v0, vs0, d0, ds0, p0, q0, hargs, rfl, rfl, h0, r0⟩ := trodAll_cons hA
  obtain ⟨rfl, rfl, rfl⟩ := trodAll_nil r0
  obtain rfl : args = #[v0] := by cases args; simp_all
  obtain ⟨rfl, rfl⟩ := trodVars_none hV
  clear hA0 hval0
  have s0 := open_bytes (e := 5) (by kernel_rfl) (hval 0 _ v0 rfl rfl) h0
  refine (L_FnPlainMix _ W s0).mono fun e W' ⟨he, hb⟩ => ⟨_, he, ?_⟩
  exact law_post 4 Try.underlying4 Try.laidOut_ (by kernel_rfl) rfl rfl hW' ⟨rfl, rfl, rfl⟩ hb

theorem FnPlainMix_holds : Rows.FnPlainMixSaid :=
  OpenClaim.holds_of_wide 3 Try.f3 rfl rfl rfl rfl rfl rfl rfl ⟨rfl, rfl, rfl, rfl, rfl⟩ rfl rfl rfl rfl rfl (by kernel_rfl) Try.func3 (closed_of (by kernel_rfl))
    (of_decide_eq_true (by kernel_rfl)) (by unfold Func.isWrapper; first | (rw [if_pos (by decide +kernel)]; kernel_rfl) | (rw [if_neg (by decide +kernel)]; exact ⟨rfl, rfl⟩))
    (fun os started H enc _ => FnPlainMix_lifted os started H enc)

end Go.Proofs.Ytkcahoojbigihaa
