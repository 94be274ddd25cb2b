/-
  Contracts of what draws numbers, matrices, layers, networks (merged).
-/
import Derived.Test.YtdfpceobfficfaaLit
import Derived.Test.YtdfpceobfficfaaView
import Derived.Test.YtdfpceobfficfaaCheck
import Derived.Test.YtdfpceobfficfaaOwn
import Derived.Test.YtdfpceobfficfaaCks
import Derived.Test.YtdfpceobfficfaaMatT
import Derived.Test.YtdfpceobfficfaaLyS
namespace Go.Proofs.Ytdfpceobfficfaa
set_option linter.unusedSimpArgs false
set_option linter.unusedVariables false
set_option linter.unusedSectionVars false
/-! ### Contracts of what draws ring numbers, shared numbers and keys: some ints. -/
open Go Go.RowKit
set_option maxHeartbeats 8000000
set_option maxRecDepth 20000
theorem C_l20Ring (R : List Ent) (g : Nat) (v : Value) (k m : Int) (w0 w1 : World) (S0 : St w0 w1 (.box g 108 [v, .int .i64 k] :: R)) (hB : Bytes w0 v) (hk : 0 ≤ k ∧ k ≤ 900000000) :
    Calls Try.prog 95 #[.pointer (some ⟨g, 0, none⟩), .int .i64 m] w1 (DrawsInt 6 R g v k w0) := by
  have HB := Lib.hid hB
  obtain ⟨k1, k2⟩ := hk
  clear hB
  obtain ⟨L, HL, S⟩ := st_name S0
  clear S0
  replace HL := Lib.hid HL
  have F := factsAll HL S
  simp only [factsOf, cellsFrom, and_true, true_and, Nat.reduceAdd] at F
  go_enter Try.func95, Try.ntmps95
  go_upto_region 2 with (first | ((go_at_call 35; refine (C_pick _ _ _ _ _ w0 _ (S.front (by first | exact atOf HL (p := 0) rfl | exact atOf HL (p := 1) rfl | exact atOf HL (p := 2) rfl | exact atOf HL (p := 3) rfl | exact atOf HL (p := 4) rfl | exact atOf HL (p := 5) rfl | exact atOf HL (p := 6) rfl | exact atOf HL (p := 7) rfl)) HB.out ⟨by omega, by omega⟩).mono ?_; rintro e w ⟨y, rfl, hy0, T0⟩; obtain ⟨L, hM, T⟩ := st_name T0; clear T0; clear F S; (try rw [HL.out] at hM); clear HL; (try simp only [List.eraseIdx_cons_zero, List.eraseIdx_cons_succ] at hM); have HL := Lib.hid hM; clear hM; have S := T; clear T; have F := factsAll HL S; (try simp only [factsOf, cellsFrom, and_true, true_and, Nat.reduceAdd] at F)); have hy := hy0 (by omega); clear hy0) | (refine wpList_lit rfl S _ _ _ rfl 3 Try.underlying53 infoInt (by simp [Act.eval]) (by simp [Act.eval, Value.oneCell']) rfl rfl rfl ?_; intro g w L hM T; clear F S; (try rw [HL.out] at hM); clear HL; (try simp [Act.put, Act.eval, Value.cells, splice] at hM); have HL := Lib.hid hM; clear hM; have S := T; clear T; have F := factsAll HL S; (try simp only [factsOf, cellsFrom, and_true, true_and, Nat.reduceAdd] at F)) | (first | (refine wpList_load_lit rfl S _ _ rfl Try.underlying3 1 _ _ _ _ (atOf HL rfl) rfl (by simp) (by simp; omega) ?_; intro q hq; clear hq) | (refine wpList_load_lit rfl S _ _ rfl Try.underlying3 2 _ _ _ _ (atOf HL rfl) rfl (by simp) (by simp; omega) ?_; intro q hq; clear hq) | (refine wpList_load_lit rfl S _ _ rfl Try.underlying3 3 _ _ _ _ (atOf HL rfl) rfl (by simp) (by simp; omega) ?_; intro q hq; clear hq)) | (go_at_call 94; refine (C_spec_l1Ring _ _).mono ?_; rintro e w' ⟨rfl, rfl⟩))
  go_wp2_with (first | ((go_at_call 35; refine (C_pick _ _ _ _ _ w0 _ (S.front (by first | exact atOf HL (p := 0) rfl | exact atOf HL (p := 1) rfl | exact atOf HL (p := 2) rfl | exact atOf HL (p := 3) rfl | exact atOf HL (p := 4) rfl | exact atOf HL (p := 5) rfl | exact atOf HL (p := 6) rfl | exact atOf HL (p := 7) rfl)) HB.out ⟨by omega, by omega⟩).mono ?_; rintro e w ⟨y, rfl, hy0, T0⟩; obtain ⟨L, hM, T⟩ := st_name T0; clear T0; clear F S; (try rw [HL.out] at hM); clear HL; (try simp only [List.eraseIdx_cons_zero, List.eraseIdx_cons_succ] at hM); have HL := Lib.hid hM; clear hM; have S := T; clear T; have F := factsAll HL S; (try simp only [factsOf, cellsFrom, and_true, true_and, Nat.reduceAdd] at F)); have hy := hy0 (by omega); clear hy0) | (go_at_call 72; refine (C_odd _ _ _ _ _ w0 _ (S.front (by first | exact atOf HL (p := 0) rfl | exact atOf HL (p := 1) rfl | exact atOf HL (p := 2) rfl | exact atOf HL (p := 3) rfl | exact atOf HL (p := 4) rfl | exact atOf HL (p := 5) rfl | exact atOf HL (p := 6) rfl | exact atOf HL (p := 7) rfl)) HB.out ⟨by omega, by omega⟩).mono ?_; rintro e w ⟨y, k', rfl, hk1, hk2, T0⟩; obtain ⟨L, hM, T⟩ := st_name T0; clear T0; clear F S; (try rw [HL.out] at hM); clear HL; (try simp only [List.eraseIdx_cons_zero, List.eraseIdx_cons_succ] at hM); have HL := Lib.hid hM; clear hM; have S := T; clear T; have F := factsAll HL S; (try simp only [factsOf, cellsFrom, and_true, true_and, Nat.reduceAdd] at F)) | (refine wpList_lit rfl S _ _ _ rfl 3 Try.underlying53 infoInt (by simp [Act.eval]) (by simp [Act.eval, Value.oneCell']) rfl rfl rfl ?_; intro g w L hM T; clear F S; (try rw [HL.out] at hM); clear HL; (try simp [Act.put, Act.eval, Value.cells, splice] at hM); have HL := Lib.hid hM; clear hM; have S := T; clear T; have F := factsAll HL S; (try simp only [factsOf, cellsFrom, and_true, true_and, Nat.reduceAdd] at F)) | (first | (refine wpList_load_lit rfl S _ _ rfl Try.underlying3 1 _ _ _ _ (atOf HL rfl) rfl (by simp) (by simp; omega) ?_; intro q hq; clear hq) | (refine wpList_load_lit rfl S _ _ rfl Try.underlying3 2 _ _ _ _ (atOf HL rfl) rfl (by simp) (by simp; omega) ?_; intro q hq; clear hq) | (refine wpList_load_lit rfl S _ _ rfl Try.underlying3 3 _ _ _ _ (atOf HL rfl) rfl (by simp) (by simp; omega) ?_; intro q hq; clear hq)))
  all_goals (go_ret; refine ⟨_, _, rfl, ?_, ?_, (by rw [HL.out] at S; exact S.sub (by first | exact .refl _ | exact .cons_cons _ (.refl _) | (refine .cons_cons _ ?_; repeat (first | exact .refl _ | refine .cons _ ?_)) | (repeat (first | exact .refl _ | exact .cons_cons _ (.refl _) | refine .cons _ ?_))))⟩ <;> omega)

/-! ### Contracts of what draws keys and checked numbers: some ints. -/
open Go Go.RowKit
set_option maxHeartbeats 8000000
set_option maxRecDepth 20000
theorem St.ints2 {w0 w : World} {L : List Ent} {p g : Nat} {t : TypeId} {a b : Int} (S : St w0 w L) (h : At L p (.box g t [.int .i64 a, .int .i64 b])) : Ints w (.slice (some ⟨g, 0, none⟩) 2 2) [a, b] := by
  refine ⟨rfl, _, 2, rfl, Nat.le_refl _, by simp [maxLen], fun _ => ⟨g, 0, rfl, (S.lt h.mem (k := g) rfl).2, fun j u hu => ?_⟩⟩
  rw [Nat.zero_add, S.cell h j]
  exact hu
theorem C_odd0 (R : List Ent) (g : Nat) (v : Value) (k : Int) (w0 w1 : World) (S0 : St w0 w1 (.box g 108 [v, .int .i64 k] :: R)) :
    Calls Try.prog 72 #[.pointer (some ⟨g, 0, none⟩), .int .i64 0] w1 (fun e w' => e = .returned (.bool false) ∧ St w0 w' (.box g 108 [v, .int .i64 k] :: R)) := by
  obtain ⟨L, HL, S⟩ := st_name S0
  clear S0
  replace HL := Lib.hid HL
  have F := factsAll HL S
  simp only [factsOf, cellsFrom, and_true, true_and, Nat.reduceAdd] at F
  go_enter Try.func72, Try.ntmps72
  go_wp2_with (first | (refine wpList_box rfl S _ _ rfl ?_; intro g w L hM T; clear F S; (try rw [HL.out] at hM); clear HL; (try simp [Act.put, Act.eval, Value.cells, splice] at hM); have HL := Lib.hid hM; clear hM; have S := T; clear T; have F := factsAll HL S; (try simp only [factsOf, cellsFrom, and_true, true_and, Nat.reduceAdd] at F))  | (refine wpList_store_box rfl S _ _ _ rfl 0 _ _ _ _ (atOf HL rfl) rfl _ rfl (by kernel_rfl) rfl rfl ?_; intro w L hM T; clear F S; (try rw [HL.out] at hM); clear HL; (try simp [Act.put, Act.eval, Value.cells, splice] at hM); have HL := Lib.hid hM; clear hM; have S := T; clear T; have F := factsAll HL S; (try simp only [factsOf, cellsFrom, and_true, true_and, Nat.reduceAdd] at F)) | (refine wpList_store_box rfl S _ _ _ rfl 1 _ _ _ _ (atOf HL rfl) rfl _ rfl (by kernel_rfl) rfl rfl ?_; intro w L hM T; clear F S; (try rw [HL.out] at hM); clear HL; (try simp [Act.put, Act.eval, Value.cells, splice] at hM); have HL := Lib.hid hM; clear hM; have S := T; clear T; have F := factsAll HL S; (try simp only [factsOf, cellsFrom, and_true, true_and, Nat.reduceAdd] at F)) | (refine wpList_store_box rfl S _ _ _ rfl 2 _ _ _ _ (atOf HL rfl) rfl _ rfl (by kernel_rfl) rfl rfl ?_; intro w L hM T; clear F S; (try rw [HL.out] at hM); clear HL; (try simp [Act.put, Act.eval, Value.cells, splice] at hM); have HL := Lib.hid hM; clear hM; have S := T; clear T; have F := factsAll HL S; (try simp only [factsOf, cellsFrom, and_true, true_and, Nat.reduceAdd] at F)) | (refine wpList_store_box rfl S _ _ _ rfl 3 _ _ _ _ (atOf HL rfl) rfl _ rfl (by kernel_rfl) rfl rfl ?_; intro w L hM T; clear F S; (try rw [HL.out] at hM); clear HL; (try simp [Act.put, Act.eval, Value.cells, splice] at hM); have HL := Lib.hid hM; clear hM; have S := T; clear T; have F := factsAll HL S; (try simp only [factsOf, cellsFrom, and_true, true_and, Nat.reduceAdd] at F))  )
  go_ret
  exact ⟨rfl, (by rw [HL.out] at S; exact S.sub (by first | exact .refl _ | exact .cons_cons _ (.refl _) | (refine .cons_cons _ ?_; repeat (first | exact .refl _ | refine .cons _ ?_)) | (repeat (first | exact .refl _ | exact .cons_cons _ (.refl _) | refine .cons _ ?_))))⟩

/-! ### Contracts of what draws a checked number and a key; a number, a key and ring numbers. -/
open Go Go.RowKit
set_option maxHeartbeats 8000000
set_option maxRecDepth 20000

/-! ### Contracts of what draws batches of checked numbers. -/
open Go Go.RowKit
set_option maxHeartbeats 8000000
set_option maxRecDepth 20000

/-! ### Contracts of what draws a batch and ring numbers; a batch, a key and a seed. -/
open Go Go.RowKit
set_option maxHeartbeats 8000000
set_option maxRecDepth 20000
theorem ints_snoc (ts : List Int) (y : Int) : ints ts ++ [.int .i64 y] = ints (ts ++ [y]) := by simp [ints]
theorem C_l20Seed (R : List Ent) (g : Nat) (v : Value) (k m : Int) (w0 w1 : World) (S0 : St w0 w1 (.box g 108 [v, .int .i64 k] :: R)) (hB : Bytes w0 v) (hk : 0 ≤ k ∧ k ≤ 900000000) :
    Calls Try.prog 43 #[.pointer (some ⟨g, 0, none⟩), .int .i64 m] w1 (DrawsInt 4 R g v k w0) := by
  have HB := Lib.hid hB
  obtain ⟨k1, k2⟩ := hk
  clear hB
  obtain ⟨L, HL, S⟩ := st_name S0
  clear S0
  replace HL := Lib.hid HL
  have F := factsAll HL S
  simp only [factsOf, cellsFrom, and_true, true_and, Nat.reduceAdd] at F
  go_enter Try.func43, Try.ntmps43
  go_wp2_with (first | ((go_at_call 35; refine (C_pick _ _ _ _ _ w0 _ (S.front (by first | exact atOf HL (p := 0) rfl | exact atOf HL (p := 1) rfl | exact atOf HL (p := 2) rfl | exact atOf HL (p := 3) rfl | exact atOf HL (p := 4) rfl | exact atOf HL (p := 5) rfl | exact atOf HL (p := 6) rfl | exact atOf HL (p := 7) rfl)) HB.out ⟨by omega, by omega⟩).mono ?_; rintro e w ⟨y, rfl, hy0, T0⟩; obtain ⟨L, hM, T⟩ := st_name T0; clear T0; clear F S; (try rw [HL.out] at hM); clear HL; (try simp only [List.eraseIdx_cons_zero, List.eraseIdx_cons_succ] at hM); have HL := Lib.hid hM; clear hM; have S := T; clear T; have F := factsAll HL S; (try simp only [factsOf, cellsFrom, and_true, true_and, Nat.reduceAdd] at F)); have hy := hy0 (by omega); clear hy0) | (go_at_call 72; refine (C_odd _ _ _ _ _ w0 _ (S.front (by first | exact atOf HL (p := 0) rfl | exact atOf HL (p := 1) rfl | exact atOf HL (p := 2) rfl | exact atOf HL (p := 3) rfl | exact atOf HL (p := 4) rfl | exact atOf HL (p := 5) rfl | exact atOf HL (p := 6) rfl | exact atOf HL (p := 7) rfl)) HB.out ⟨by omega, by omega⟩).mono ?_; rintro e w ⟨y, k', rfl, hk1, hk2, T0⟩; obtain ⟨L, hM, T⟩ := st_name T0; clear T0; clear F S; (try rw [HL.out] at hM); clear HL; (try simp only [List.eraseIdx_cons_zero, List.eraseIdx_cons_succ] at hM); have HL := Lib.hid hM; clear hM; have S := T; clear T; have F := factsAll HL S; (try simp only [factsOf, cellsFrom, and_true, true_and, Nat.reduceAdd] at F)) | (refine wpList_lit rfl S _ _ _ rfl 3 Try.underlying53 infoInt (by simp [Act.eval]) (by simp [Act.eval, Value.oneCell']) rfl rfl rfl ?_; intro g w L hM T; clear F S; (try rw [HL.out] at hM); clear HL; (try simp [Act.put, Act.eval, Value.cells, splice] at hM); have HL := Lib.hid hM; clear hM; have S := T; clear T; have F := factsAll HL S; (try simp only [factsOf, cellsFrom, and_true, true_and, Nat.reduceAdd] at F)) | (first | (refine wpList_load_lit rfl S _ _ rfl Try.underlying3 1 _ _ _ _ (atOf HL rfl) rfl (by simp) (by simp; omega) ?_; intro q hq; have hq := id hq; simp only [List.mem_cons, Value.int.injEq, true_and, List.not_mem_nil, or_false] at hq) | (refine wpList_load_lit rfl S _ _ rfl Try.underlying3 2 _ _ _ _ (atOf HL rfl) rfl (by simp) (by simp; omega) ?_; intro q hq; have hq := id hq; simp only [List.mem_cons, Value.int.injEq, true_and, List.not_mem_nil, or_false] at hq) | (refine wpList_load_lit rfl S _ _ rfl Try.underlying3 3 _ _ _ _ (atOf HL rfl) rfl (by simp) (by simp; omega) ?_; intro q hq; have hq := id hq; simp only [List.mem_cons, Value.int.injEq, true_and, List.not_mem_nil, or_false] at hq)))
  all_goals (go_ret; refine ⟨_, _, rfl, ?_, ?_, (by rw [HL.out] at S; exact S.sub (by first | exact .refl _ | exact .cons_cons _ (.refl _) | (refine .cons_cons _ ?_; repeat (first | exact .refl _ | refine .cons _ ?_)) | (repeat (first | exact .refl _ | exact .cons_cons _ (.refl _) | refine .cons _ ?_))))⟩ <;> omega)

/-! ### Contracts of what draws matrices: sides. -/
open Go Go.RowKit
set_option maxHeartbeats 8000000
set_option maxRecDepth 20000
section
variable {P : Program} {w0 w : World} {a : Act} {L : List Ent} {o : Oper} {K : Act → World → Prop} {Q : Exit → Act → World → Prop}
theorem wp_lit2i (S : St w0 w L) (t : TypeId) (x y : Operand) (ho : o.op = .buildSlice t 2 #[(0, x), (1, y)])
    (e : TypeId) (ht : P.underlying t = some (.slice e)) {z : Value} {bytes : Nat} (hi : (P.info? e).map (fun i => (i.zero, i.size, i.bytes)) = some (some z, 1, bytes))
    (c d : Int) (hx : a.eval x = .int .i64 c) (hy : a.eval y = .int .i64 d)
    (h : ∀ g w' M, M = .box g e [.int .i64 c, .int .i64 d] :: L → St w0 w' M → K (a.put o.dst (.slice (some ⟨g, 0, none⟩) 2 2)) w') : o.wp P a w K Q := by
  obtain ⟨i, hi0, hz0, hz1, hz2⟩ := info_parts hi
  refine Go.wp_buildSlice t e 2 _ ho #[.int .i64 c, .int .i64 d] i z ht hi0 hz0 (by rw [hz1]; omega) (by rw [hz1]; omega) ?_ (h _ _ _ rfl (S.new e _))
  rw [hz1, Array.toList_map]
  show Instr.fill _ _ [(0, a.eval x), (1, a.eval y)] = _
  rw [hx, hy]
  show Instr.fill _ _ (([Value.int .i64 c, .int .i64 d].zipIdx 0).map fun x => (x.2, x.1)) = _
  exact Great.fill_flat _ _ (fun v hv => by
    rcases List.mem_cons.1 hv with rfl | hv
    · rfl
    · rw [List.mem_singleton.1 hv]; rfl) (by simp)
end
theorem quo3 {y : Int} (h : 0 ≤ y ∧ y < 4) : IntKind.i64.wrap (Int.tdiv y 3) = 0 ∨ IntKind.i64.wrap (Int.tdiv y 3) = 1 := by
  rw [Int.tdiv_eq_ediv_of_nonneg h.1, IntKind.wrap_i64]
  omega

/-! ### Contracts: how often ring numbers come. -/
open Go Go.RowKit
set_option maxHeartbeats 2000000
set_option maxRecDepth 20000

/-- Two new rows of ints are handed back. -/
def MakesTwo (w0 : World) (xs ys : List Int) (e : Ending) (w : World) : Prop :=
  ∃ u v, e = .returned (.tuple #[u, v]) ∧ ∃ n m, xs.length = n ∧ ys.length = m ∧ St w0 w [.row 3 1 v m (ints ys), .row 3 1 u n (ints xs)]
/-- A new row of ints is handed back. -/
def MakesOne (w0 : World) (xs : List Int) (e : Ending) (w : World) : Prop :=
  ∃ u, e = .returned u ∧ ∃ n, xs.length = n ∧ St w0 w [.row 3 1 u n (ints xs)]

theorem wrap_eq (z : Int) : IntKind.i64.wrap z = wrap64 z := by rw [IntKind.wrap_i64]; unfold wrap64; rfl
theorem bump_step {xs : List Int} {i : Nat} {y : Int} (h : xs.getD i 0 = y) : (ints xs).set i (.int .i64 (wrap64 (y + 1))) = ints (bump xs i) := by
  rw [bump, h, ints_set]
theorem zero_cells : (madeCells (Value.int .i64 0).cells (4096 * 1)).toList = ints (tab 4096 fun _ => 0) := ints_tab_zero 4096
theorem ints_bumps_zero (c : Nat → Nat) : ints (bumps c 0) = (madeCells #[Value.int .i64 0] 4096).toList := (ints_tab_zero 4096).symm
theorem bumps_succ (c : Nat → Nat) (k : Nat) : bumps c (k + 1) = bump (bumps c k) (c k) := rfl

/-! ### Contracts of what draws lists of views: valid shared numbers, their views, changed or not. -/
open Go Go.RowKit
set_option maxHeartbeats 8000000
set_option maxRecDepth 20000
def DrawsRing (R : List Ent) (g : Nat) (v : Value) (k : Int) (w0 : World) (e : Ending) (w' : World) : Prop :=
  ∃ (y k' : Int), e = .returned (.int .i64 y) ∧ rv y = true ∧ k ≤ k' ∧ k' ≤ k + 6 ∧ St w0 w' (.box g 108 [v, .int .i64 k'] :: R)
theorem C_l20Ring0 (R : List Ent) (g : Nat) (v : Value) (k : Int) (w0 w1 : World) (S0 : St w0 w1 (.box g 108 [v, .int .i64 k] :: R)) (hB : Bytes w0 v) (hk : 0 ≤ k ∧ k ≤ 900000000) :
    Calls Try.prog 95 #[.pointer (some ⟨g, 0, none⟩), .int .i64 0] w1 (DrawsRing R g v k w0) := by
  have HB := Lib.hid hB
  obtain ⟨k1, k2⟩ := hk
  clear hB
  obtain ⟨L, HL, S⟩ := st_name S0
  clear S0
  replace HL := Lib.hid HL
  have F := factsAll HL S
  simp only [factsOf, cellsFrom, and_true, true_and, Nat.reduceAdd] at F
  have hro := ro_bd
  go_enter Try.func95, Try.ntmps95
  go_upto_region 2 with (first | ((go_at_call 35; refine (C_pick _ _ _ _ _ w0 _ (S.front (by first | exact atOf HL (p := 0) rfl | exact atOf HL (p := 1) rfl | exact atOf HL (p := 2) rfl | exact atOf HL (p := 3) rfl | exact atOf HL (p := 4) rfl | exact atOf HL (p := 5) rfl | exact atOf HL (p := 6) rfl | exact atOf HL (p := 7) rfl)) HB.out ⟨by omega, by omega⟩).mono ?_; rintro e w ⟨y, rfl, hy0, T0⟩; obtain ⟨L, hM, T⟩ := st_name T0; clear T0; clear F S; (try rw [HL.out] at hM); clear HL; (try simp only [List.eraseIdx_cons_zero, List.eraseIdx_cons_succ] at hM); have HL := Lib.hid hM; clear hM; have S := T; clear T; have F := factsAll HL S; (try simp only [factsOf, cellsFrom, and_true, true_and, Nat.reduceAdd] at F)); have hy := hy0 (by omega); clear hy0) | (refine wpList_lit rfl S _ _ _ rfl 3 Try.underlying53 infoInt (by simp [Act.eval]) (by simp [Act.eval, Value.oneCell']) rfl rfl rfl ?_; intro g w L hM T; clear F S; (try rw [HL.out] at hM); clear HL; (try simp [Act.put, Act.eval, Value.cells, splice] at hM); have HL := Lib.hid hM; clear hM; have S := T; clear T; have F := factsAll HL S; (try simp only [factsOf, cellsFrom, and_true, true_and, Nat.reduceAdd] at F)) | (first | (refine wpList_load_lit rfl S _ _ rfl Try.underlying3 1 _ _ _ _ (atOf HL rfl) rfl (by simp) (by simp; omega) ?_; intro q hq; have hq := id hq; simp only [List.mem_cons, Value.int.injEq, true_and, List.not_mem_nil, or_false] at hq) | (refine wpList_load_lit rfl S _ _ rfl Try.underlying3 2 _ _ _ _ (atOf HL rfl) rfl (by simp) (by simp; omega) ?_; intro q hq; have hq := id hq; simp only [List.mem_cons, Value.int.injEq, true_and, List.not_mem_nil, or_false] at hq) | (refine wpList_load_lit rfl S _ _ rfl Try.underlying3 3 _ _ _ _ (atOf HL rfl) rfl (by simp) (by simp; omega) ?_; intro q hq; have hq := id hq; simp only [List.mem_cons, Value.int.injEq, true_and, List.not_mem_nil, or_false] at hq)) | (go_at_call 94; refine (C_spec_l1Ring _ _).mono ?_; rintro e w' ⟨rfl, rfl⟩))
  clear hro
  have hq2 : rv q = true := by
    rcases hq with rfl | rfl | rfl | rfl | rfl | rfl | rfl | rfl <;> first | exact rv_ro _ | (refine rv_iff.2 ⟨?_, ?_⟩ <;> omega)
  clear hq
  go_wp2_with (first | (go_at_call 72; refine (C_odd0 _ _ _ _ w0 _ (S.front (by first | exact atOf HL (p := 0) rfl | exact atOf HL (p := 1) rfl | exact atOf HL (p := 2) rfl | exact atOf HL (p := 3) rfl | exact atOf HL (p := 4) rfl | exact atOf HL (p := 5) rfl | exact atOf HL (p := 6) rfl | exact atOf HL (p := 7) rfl))).mono ?_; rintro e w ⟨rfl, T0⟩; obtain ⟨L, hM, T⟩ := st_name T0; clear T0; clear F S; (try rw [HL.out] at hM); clear HL; (try simp only [List.eraseIdx_cons_zero, List.eraseIdx_cons_succ] at hM); have HL := Lib.hid hM; clear hM; have S := T; clear T; have F := factsAll HL S; (try simp only [factsOf, cellsFrom, and_true, true_and, Nat.reduceAdd] at F)))
  go_ret
  refine ⟨_, _, rfl, hq2, ?_, ?_, (by rw [HL.out] at S; exact S.sub (by first | exact .refl _ | exact .cons_cons _ (.refl _) | (refine .cons_cons _ ?_; repeat (first | exact .refl _ | refine .cons _ ?_)) | (repeat (first | exact .refl _ | exact .cons_cons _ (.refl _) | refine .cons _ ?_))))⟩ <;> omega

/-! ### Contracts of what draws matrices. -/
open Go Go.RowKit
set_option maxHeartbeats 8000000
set_option maxRecDepth 20000
theorem quo_nat {y : Int} (h : 0 ≤ y) (h1 : y < 1000) : ∃ j : Nat, Int.tdiv y 3 = j ∧ 3 * (j : Int) ≤ y ∧ IntKind.i64.wrap (j : Int) = j := by
  refine ⟨(y / 3).toNat, ?_, by omega, ?_⟩
  · rw [Int.tdiv_eq_ediv_of_nonneg h]; omega
  · rw [IntKind.wrap_i64]; omega
section
variable {P : Program} {w0 w : World} {a : Act} {L : List Ent} {o : Oper} {K : Act → World → Prop} {Q : Exit → Act → World → Prop}
theorem wp_load_lit (S : St w0 w L) (ty : TypeId) (ad : Operand) (ho : o.op = .load ty ad) (hty : P.underlying ty = some (.int .i64)) (p g : Nat) (t : TypeId) (cs : List Value) (i : Nat) (hp : At L p (.box g t cs))
    (had : a.eval ad = .pointer (some ⟨g, i, none⟩)) (hall : ∀ v ∈ cs, ∃ q : Int, v = .int .i64 q) (hi : i < cs.length)
    (h : ∀ q : Int, Value.int .i64 q ∈ cs → K (a.put o.dst (.int .i64 q)) w) : o.wp P a w K Q := by
  have hc := S.cell hp i
  rw [List.getElem?_eq_getElem hi] at hc
  obtain ⟨q, hq⟩ := hall _ (List.getElem_mem hi)
  have hq' : Value.int .i64 q ∈ cs := by rw [← hq]; exact List.getElem_mem hi
  rw [hq] at hc
  unfold Oper.wp
  simp only [execOp, ho, had]
  simp [Instr.loadAt, Instr.sureAddr, loadVar, isAgg, Sem.run_bind, run_underlying hty, hc]
  exact h q hq'
end
/-- A matrix is drawn: a new row at the list's front, the reader behind it. -/
def DrawsMx (R : List Ent) (g : Nat) (v : Value) (k m : Int) (A B : Nat) (w0 : World) (e : Ending) (w' : World) : Prop :=
  ∃ (u : Value) (r c : Int) (xs : List Int) (k' : Int), e = .returned (.agg #[.int .i64 r, .int .i64 c, u]) ∧ xs.length ≤ 26 ∧ k ≤ k' ∧ k' ≤ k + 400 ∧ (m = 0 → r = A ∧ c = B ∧ xs.length = A * B ∧ xs.all rv = true) ∧ St w0 w' (.row 3 1 u xs.length (ints xs) :: .box g 108 [v, .int .i64 k'] :: R)
theorem C_l20Matrix (R : List Ent) (gr : Nat) (v : Value) (k m : Int) (A B N : Nat) (w0 w1 : World) (S0 : St w0 w1 (.box gr 108 [v, .int .i64 k] :: R)) (hB : Bytes w0 v) (hk : 0 ≤ k ∧ k ≤ 600000000)
    (r1 : 1 ≤ A) (r2 : A ≤ 5) (c1 : 1 ≤ B) (c2 : B ≤ 5) (hN : A * B = N) (hN2 : N ≤ 25) (hm0 : 0 ≤ m) :
    Calls Try.prog 61 #[.pointer (some ⟨gr, 0, none⟩), .int .i64 A, .int .i64 B, .int .i64 m] w1 (DrawsMx R gr v k m A B w0) := by
  have HB := Lib.hid hB
  obtain ⟨k1, k2⟩ := hk
  have w1' : (A : Int) * (B : Int) = (N : Int) := by rw [← hN, Int.natCast_mul]
  have HNN := Lib.hid hN
  clear hB hN
  obtain ⟨L, HL, S⟩ := st_name S0
  clear S0
  replace HL := Lib.hid HL
  have F := factsAll HL S
  simp only [factsOf, cellsFrom, and_true, true_and, Nat.reduceAdd] at F
  go_enter Try.func61, Try.ntmps61
  go_upto_region 1 with (first | (refine wpList_alloc rfl S 55 _ rfl zMx ?_; intro g8 w L hM T; clear F S; (try rw [HL.out] at hM); clear HL; (try simp [Act.put, Act.eval, Value.cells, splice] at hM); have HL := Lib.hid hM; clear hM; have S := T; clear T; have F := factsAll HL S; (try simp only [factsOf, cellsFrom, and_true, true_and, Nat.reduceAdd] at F)))
  go_upto_region 3 with (first | (refine wpList_alloc rfl S 55 _ rfl zMx ?_; intro g9 w L hM T; clear F S; (try rw [HL.out] at hM); clear HL; (try simp [Act.put, Act.eval, Value.cells, splice] at hM); have HL := Lib.hid hM; clear hM; have S := T; clear T; have F := factsAll HL S; (try simp only [factsOf, cellsFrom, and_true, true_and, Nat.reduceAdd] at F)) | (refine wpList_store_box rfl S _ _ _ rfl 0 _ _ _ _ (atOf HL rfl) rfl _ rfl (by kernel_rfl) rfl rfl ?_; intro w L hM T; clear F S; (try rw [HL.out] at hM); clear HL; (try simp [Act.put, Act.eval, Value.cells, splice] at hM); have HL := Lib.hid hM; clear hM; have S := T; clear T; have F := factsAll HL S; (try simp only [factsOf, cellsFrom, and_true, true_and, Nat.reduceAdd] at F)))
  rw [HL.out] at S
  replace S := (S.nilRow 3 1).front (p := 3) rfl
  simp only [List.eraseIdx_cons_succ, List.eraseIdx_cons_zero] at S
  clear HL F
  obtain ⟨L, hM, T⟩ := st_name S; clear S; have S := T; clear T; have HL := Lib.hid hM; clear hM; have F := factsAll HL S; (try simp only [factsOf, cellsFrom, and_true, true_and, Nat.reduceAdd] at F)
  go_loopw [10] (fun i wr => ∃ (q : Nat) (E1 : Option Addr) (m1 : Nat) (xs : List Int) (k' : Int) (L : List Ent), q ≤ N ∧ i = .int .i64 q ∧ xs.length = q ∧ Hid (xs.all rv = true) ∧ k ≤ k' ∧ k' ≤ k + 12 * q ∧ Hid (L = .box gr 108 [v, .int .i64 k'] :: .row 3 1 (.slice E1 q m1) q (ints xs) :: .box g9 55 [.int .i64 A, .int .i64 B, .slice E1 q m1] :: .box g8 55 [.int .i64 0, .int .i64 0, .slice none 0 0] :: R) ∧ St w0 wr L) (fun i _ => N - (intOf i).toNat)
  case atStart => exact ⟨0, none, 0, [], k, L, Nat.zero_le _, rfl, rfl, Lib.hid rfl, by omega, by omega, HL, S⟩
  case round =>
    clear F HL S
    obtain ⟨q, E1, m1, xs, k', L, hq, rfl, hlen, HA, hk3, hk4, HL, S⟩ := hrel
    have F := factsAll HL S
    simp only [factsOf, cellsFrom, and_true, true_and, Nat.reduceAdd] at F
    by_cases hlt : q < N
    · have HLN := Lib.hid hlen
      clear hlen
      go_upto_region 5 with fail
      have hT := congrArg (List.drop 2) HL.out; simp only [List.drop_succ_cons, List.drop_zero] at hT; obtain ⟨L1, hL1⟩ : ∃ M, M = L.drop 2 := ⟨_, rfl⟩; rw [← hL1] at hT; have HL0 := Lib.hid hT; have S1 := S.sub (List.drop_sublist 2 L); rw [← hL1] at S1; have F0 := factsAll HL0 S1; (try simp only [factsOf, cellsFrom, and_true, true_and, Nat.reduceAdd] at F0); clear S1 hL1 hT; refine wp_region_tree (S := fun w' => St w0 w' L1) (.calm 0 (.calm 1 (.calm 2 (.calm 6 (.calm 9 (.act 3 (.calm 4 (.act 5 (.act 7 (.act 8 (.act 10 (.calm 11 (.calm 12 (.act 13 (.act 14 (.act 15 (.calm 16 (.act 17 .fin .stop)) .stop) .stop) .stop))) .stop) (.act 10 (.calm 11 (.act 8 (.calm 12 (.act 13 (.act 14 (.act 15 (.calm 16 (.act 17 .fin .stop)) .stop) .stop) .stop)) .stop)) .stop)) .stop) .stop)) .stop)))))) (by kernel_rfl) (by kernel_rfl) (by kernel_rfl) (by intro c a d v w h; cases d <;> exact h) ?_; replace S := S.drew
      repeat' (first | (first | (refine tree_calm (v := ?_) ?_ rfl (by decide +kernel) rfl ?_ ?_; rotate_left; (focus (first | exact S | (refine S.sub (subL HL0 HL ?_); (repeat (first | exact List.Sublist.refl _ | apply List.Sublist.cons)); done))); (focus (intro w' hS'; (try dsimp only at hS'); go_simp; try rfl)); (try simp only [Act.put, List.setIfInBounds_toArray, List.set_cons_zero, List.set_cons_succ])) | (refine tree_any (v := ?_) ?_ rfl rfl ?_ ?_; rotate_left; (focus (first | exact S | (refine S.sub (subL HL0 HL ?_); (repeat (first | exact List.Sublist.refl _ | apply List.Sublist.cons)); done))); (focus (intro w'; go_simp; try rfl)); (try simp only [Act.put, List.setIfInBounds_toArray, List.set_cons_zero, List.set_cons_succ]))) | (refine tree_skip ?_ rfl rfl ?_; (focus (first | exact S | (refine S.sub (subL HL0 HL ?_); (repeat (first | exact List.Sublist.refl _ | apply List.Sublist.cons)); done))); (try simp only [Act.put, List.setIfInBounds_toArray, List.set_cons_zero, List.set_cons_succ])) | exact tree_stop | (refine tree_act rfl rfl ?_ ?_) | (intro K hK; (refine wp_lit2i S _ _ _ rfl 3 Try.underlying53 infoInt _ _ rfl rfl ?_; intro g w L hM T; clear F S; (try rw [HL.out] at hM); clear HL; (try simp [Act.put, Act.eval, Value.cells, splice] at hM); have HL := Lib.hid hM; clear hM; have S := T; clear T; have F := factsAll HL S; (try simp only [factsOf, cellsFrom, and_true, true_and, Nat.reduceAdd] at F)); (refine hK.out _ _ ?_ ?_; (focus (first | exact fun _ => S | (intro _; refine S.sub (subL HL0 HL ?_); (repeat (first | exact List.Sublist.refl _ | apply List.Sublist.cons)); done) | (refine sink_no ?_; kernel_rfl))); clear hK K; (try simp only [Act.put, List.setIfInBounds_toArray, List.set_cons_zero, List.set_cons_succ]))) | (intro K hK; (first | (refine wp_load_lit S _ _ rfl Try.underlying3 0 _ _ _ _ (atOf HL rfl) rfl (by simp) (by simp; omega) ?_; intro q' hq'; have hq' := id hq'; simp only [List.mem_cons, Value.int.injEq, true_and, List.not_mem_nil, or_false] at hq') | (refine wp_load_lit S _ _ rfl Try.underlying3 1 _ _ _ _ (atOf HL rfl) rfl (by simp) (by simp; omega) ?_; intro q' hq'; have hq' := id hq'; simp only [List.mem_cons, Value.int.injEq, true_and, List.not_mem_nil, or_false] at hq') | (refine wp_load_lit S _ _ rfl Try.underlying3 2 _ _ _ _ (atOf HL rfl) rfl (by simp) (by simp; omega) ?_; intro q' hq'; have hq' := id hq'; simp only [List.mem_cons, Value.int.injEq, true_and, List.not_mem_nil, or_false] at hq') | (refine wp_load_lit S _ _ rfl Try.underlying3 3 _ _ _ _ (atOf HL rfl) rfl (by simp) (by simp; omega) ?_; intro q' hq'; have hq' := id hq'; simp only [List.mem_cons, Value.int.injEq, true_and, List.not_mem_nil, or_false] at hq')); (refine hK.out _ _ ?_ ?_; (focus (first | exact fun _ => S | (intro _; refine S.sub (subL HL0 HL ?_); (repeat (first | exact List.Sublist.refl _ | apply List.Sublist.cons)); done) | (refine sink_no ?_; kernel_rfl))); clear hK K; (try simp only [Act.put, List.setIfInBounds_toArray, List.set_cons_zero, List.set_cons_succ]))) | (intro K hK; (refine wp_lit1 S _ _ rfl 3 Try.underlying53 infoInt _ rfl ?_; intro g w L hM T; clear F S; (try rw [HL.out] at hM); clear HL; (try simp [Act.put, Act.eval, Value.cells, splice] at hM); have HL := Lib.hid hM; clear hM; have S := T; clear T; have F := factsAll HL S; (try simp only [factsOf, cellsFrom, and_true, true_and, Nat.reduceAdd] at F)); (refine hK.out _ _ ?_ ?_; (focus (first | exact fun _ => S | (intro _; refine S.sub (subL HL0 HL ?_); (repeat (first | exact List.Sublist.refl _ | apply List.Sublist.cons)); done) | (refine sink_no ?_; kernel_rfl))); clear hK K; (try simp only [Act.put, List.setIfInBounds_toArray, List.set_cons_zero, List.set_cons_succ]))) | (intro K hK; (refine wp_append_box S _ _ _ rfl 3 _ 1 8 Try.underlying53 infoInt rfl (by omega) _ _ _ _ rfl (by first | exact atOf HL (p := 0) rfl | exact atOf HL (p := 1) rfl | exact atOf HL (p := 2) rfl | exact atOf HL (p := 3) rfl | exact atOf HL (p := 4) rfl | exact atOf HL (p := 5) rfl | exact atOf HL (p := 6) rfl | exact atOf HL (p := 7) rfl) (by omega) _ _ _ _ _ _ rfl (by first | exact atOf HL (p := 0) rfl | exact atOf HL (p := 1) rfl | exact atOf HL (p := 2) rfl | exact atOf HL (p := 3) rfl | exact atOf HL (p := 4) rfl | exact atOf HL (p := 5) rfl | exact atOf HL (p := 6) rfl | exact atOf HL (p := 7) rfl) rfl rfl rfl rfl ?_; intro u w L hM T; clear F S; (try rw [HL.out] at hM); clear HL; (try simp [Act.put, Act.eval, Value.cells, splice] at hM); have HL := Lib.hid hM; clear hM; have S := T; clear T; have F := factsAll HL S; (try simp only [factsOf, cellsFrom, and_true, true_and, Nat.reduceAdd] at F); first | obtain ⟨A', cap', rfl, hcap', hmax'⟩ := S.sliceOf (atOf HL (p := 1) rfl) | obtain ⟨A', cap', rfl, hcap', hmax'⟩ := S.sliceOf (atOf HL (p := 2) rfl) | obtain ⟨A', cap', rfl, hcap', hmax'⟩ := S.sliceOf (atOf HL (p := 3) rfl)); (refine hK.out _ _ ?_ ?_; (focus (first | exact fun _ => S | (intro _; refine S.sub (subL HL0 HL ?_); (repeat (first | exact List.Sublist.refl _ | apply List.Sublist.cons)); done) | (refine sink_no ?_; kernel_rfl))); clear hK K; (try simp only [Act.put, List.setIfInBounds_toArray, List.set_cons_zero, List.set_cons_succ]))) | (intro K hK; (refine wp_store_box S _ _ _ rfl 3 _ _ _ _ (atOf HL rfl) rfl _ rfl (by kernel_rfl) rfl rfl ?_; intro w L hM T; clear F S; (try rw [HL.out] at hM); clear HL; (try simp [Act.put, Act.eval, Value.cells, splice] at hM); have HL := Lib.hid hM; clear hM; have S := T; clear T; have F := factsAll HL S; (try simp only [factsOf, cellsFrom, and_true, true_and, Nat.reduceAdd] at F)); (refine hK.out _ _ ?_ ?_; (focus (first | exact fun _ => S | (intro _; refine S.sub (subL HL0 HL ?_); (repeat (first | exact List.Sublist.refl _ | apply List.Sublist.cons)); done) | (refine sink_no ?_; kernel_rfl))); clear hK K; (try simp only [Act.put, List.setIfInBounds_toArray, List.set_cons_zero, List.set_cons_succ]))) | (intro K hK; (refine wp_store_box S _ _ _ rfl 4 _ _ _ _ (atOf HL rfl) rfl _ rfl (by kernel_rfl) rfl rfl ?_; intro w L hM T; clear F S; (try rw [HL.out] at hM); clear HL; (try simp [Act.put, Act.eval, Value.cells, splice] at hM); have HL := Lib.hid hM; clear hM; have S := T; clear T; have F := factsAll HL S; (try simp only [factsOf, cellsFrom, and_true, true_and, Nat.reduceAdd] at F)); (refine hK.out _ _ ?_ ?_; (focus (first | exact fun _ => S | (intro _; refine S.sub (subL HL0 HL ?_); (repeat (first | exact List.Sublist.refl _ | apply List.Sublist.cons)); done) | (refine sink_no ?_; kernel_rfl))); clear hK K; (try simp only [Act.put, List.setIfInBounds_toArray, List.set_cons_zero, List.set_cons_succ]))) | (intro K hK; (refine wp_store_box S _ _ _ rfl 5 _ _ _ _ (atOf HL rfl) rfl _ rfl (by kernel_rfl) rfl rfl ?_; intro w L hM T; clear F S; (try rw [HL.out] at hM); clear HL; (try simp [Act.put, Act.eval, Value.cells, splice] at hM); have HL := Lib.hid hM; clear hM; have S := T; clear T; have F := factsAll HL S; (try simp only [factsOf, cellsFrom, and_true, true_and, Nat.reduceAdd] at F)); (refine hK.out _ _ ?_ ?_; (focus (first | exact fun _ => S | (intro _; refine S.sub (subL HL0 HL ?_); (repeat (first | exact List.Sublist.refl _ | apply List.Sublist.cons)); done) | (refine sink_no ?_; kernel_rfl))); clear hK K; (try simp only [Act.put, List.setIfInBounds_toArray, List.set_cons_zero, List.set_cons_succ]))) | (intro K hK; go_wp2_with (first | ((go_at_call 35; refine (C_pick _ _ _ _ _ w0 _ (S.front (by first | exact atOf HL (p := 0) rfl | exact atOf HL (p := 1) rfl | exact atOf HL (p := 2) rfl | exact atOf HL (p := 3) rfl | exact atOf HL (p := 4) rfl | exact atOf HL (p := 5) rfl | exact atOf HL (p := 6) rfl | exact atOf HL (p := 7) rfl)) HB.out ⟨by omega, by omega⟩).mono ?_; rintro e w ⟨y, rfl, hy0, T0⟩; obtain ⟨L, hM, T⟩ := st_name T0; clear T0; clear F S; (try rw [HL.out] at hM); clear HL; (try simp only [List.eraseIdx_cons_zero, List.eraseIdx_cons_succ] at hM); have HL := Lib.hid hM; clear hM; have S := T; clear T; have F := factsAll HL S; (try simp only [factsOf, cellsFrom, and_true, true_and, Nat.reduceAdd] at F)); have hy := hy0 (by omega); clear hy0; obtain ⟨j, hj, hjl, hjw⟩ := quo_nat hy.1 (by omega); (try (have hj2 : (j : Int) < 2 := by omega))) | (go_at_call 95; refine (C_l20Ring0 _ _ _ _ w0 _ (S.front (by first | exact atOf HL (p := 0) rfl | exact atOf HL (p := 1) rfl | exact atOf HL (p := 2) rfl | exact atOf HL (p := 3) rfl | exact atOf HL (p := 4) rfl | exact atOf HL (p := 5) rfl | exact atOf HL (p := 6) rfl | exact atOf HL (p := 7) rfl)) HB.out ⟨by omega, by omega⟩).mono ?_; rintro e w ⟨y, k', rfl, hyr, hk1, hk2, T0⟩; obtain ⟨L, hM, T⟩ := st_name T0; clear T0; clear F S; (try rw [HL.out] at hM); clear HL; (try simp only [List.eraseIdx_cons_zero, List.eraseIdx_cons_succ] at hM); have HL := Lib.hid hM; clear hM; have S := T; clear T; have F := factsAll HL S; (try simp only [factsOf, cellsFrom, and_true, true_and, Nat.reduceAdd] at F)) | (go_at_call 94; refine (C_spec_l1Ring _ _).mono ?_; rintro e w' ⟨rfl, rfl⟩)); (refine hK.out _ _ ?_ ?_; (focus (first | exact fun _ => S | (intro _; refine S.sub (subL HL0 HL ?_); (repeat (first | exact List.Sublist.refl _ | apply List.Sublist.cons)); done) | (refine sink_no ?_; kernel_rfl))); clear hK K; (try simp only [Act.put, List.setIfInBounds_toArray, List.set_cons_zero, List.set_cons_succ]))))
      all_goals
        refine tree_fin ?_
        clear HL0 F0
        have hr : rv q' = true := by
          rcases hq' with h | h
          · rw [h]; exact rv_ro _
          · rw [h]; exact hyr
        have HR' := Lib.hid hr
        clear hr hq' hyr
        go_wp2
        go_roundw
        case rel =>
          first
            | (have T := S.front (atOf HL (p := 2) rfl); rw [HL.out] at T; simp only [List.eraseIdx_cons_succ, List.eraseIdx_cons_zero] at T; replace T := T.sub (.cons_cons _ (.cons _ (.cons _ (.refl _)))); rw [show [Value.int .i64 q'] = ints [q'] from rfl, ← ints_append] at T; exact ⟨q + 1, _, _, xs ++ [q'], _, _, by omega, by go_num, by simp [HLN.out], Lib.hid (by simp [List.all_append, HA.out, HR'.out]), by omega, by omega, Lib.hid rfl, T⟩)
            | (have T := S.front (atOf HL (p := 1) rfl); rw [HL.out] at T; simp only [List.eraseIdx_cons_succ, List.eraseIdx_cons_zero] at T; replace T := T.sub (.cons_cons _ (.cons _ (.cons _ (.refl _)))); rw [show [Value.int .i64 q'] = ints [q'] from rfl, ← ints_append] at T; exact ⟨q + 1, _, _, xs ++ [q'], _, _, by omega, by go_num, by simp [HLN.out], Lib.hid (by simp [List.all_append, HA.out, HR'.out]), by omega, by omega, Lib.hid rfl, T⟩)
        case measure => simp [intOf]; omega
    · obtain rfl : q = N := by omega
      have HLN := Lib.hid hlen
      clear hlen
      have hN1 : 1 ≤ q := by
        rcases Nat.eq_zero_or_pos q with h | h
        · subst h
          have : 0 < A * B := Nat.mul_pos r1 c1
          have : ((A * B : Nat) : Int) = ((0 : Nat) : Int) := by rw [Int.natCast_mul]; exact w1'
          omega
        · exact h
      rcases S.rowShape (atOf HL (p := 1) rfl) with ⟨_, h0⟩ | ⟨gq, cq, he, _, hcq⟩
      · omega
      simp only [Value.slice.injEq, true_and] at he
      obtain ⟨rfl, rfl⟩ := he
      unfold maxLen at hcq
      have hN0 : 0 < q := hN1
      by_cases hm : 0 < m
      · go_wp2_with (first | (go_at_call 72; refine (C_odd _ _ _ _ _ w0 _ (S.front (by first | exact atOf HL (p := 0) rfl | exact atOf HL (p := 1) rfl | exact atOf HL (p := 2) rfl | exact atOf HL (p := 3) rfl | exact atOf HL (p := 4) rfl | exact atOf HL (p := 5) rfl | exact atOf HL (p := 6) rfl | exact atOf HL (p := 7) rfl)) HB.out ⟨by omega, by omega⟩).mono ?_; rintro e w ⟨y, k', rfl, hk1, hk2, T0⟩; obtain ⟨L, hM, T⟩ := st_name T0; clear T0; clear F S; (try rw [HL.out] at hM); clear HL; (try simp only [List.eraseIdx_cons_zero, List.eraseIdx_cons_succ] at hM); have HL := Lib.hid hM; clear hM; have S := T; clear T; have F := factsAll HL S; (try simp only [factsOf, cellsFrom, and_true, true_and, Nat.reduceAdd] at F)) | ((go_at_call 35; refine (C_pick _ _ _ _ _ w0 _ (S.front (by first | exact atOf HL (p := 0) rfl | exact atOf HL (p := 1) rfl | exact atOf HL (p := 2) rfl | exact atOf HL (p := 3) rfl | exact atOf HL (p := 4) rfl | exact atOf HL (p := 5) rfl | exact atOf HL (p := 6) rfl | exact atOf HL (p := 7) rfl)) HB.out ⟨by omega, by omega⟩).mono ?_; rintro e w ⟨y, rfl, hy0, T0⟩; obtain ⟨L, hM, T⟩ := st_name T0; clear T0; clear F S; (try rw [HL.out] at hM); clear HL; (try simp only [List.eraseIdx_cons_zero, List.eraseIdx_cons_succ] at hM); have HL := Lib.hid hM; clear hM; have S := T; clear T; have F := factsAll HL S; (try simp only [factsOf, cellsFrom, and_true, true_and, Nat.reduceAdd] at F)); have hy := hy0 (by omega); clear hy0) | (refine wpList_lit rfl S _ _ _ rfl 3 Try.underlying53 infoInt (by simp [Act.eval]) (by simp [Act.eval, Value.oneCell']) rfl rfl rfl ?_; intro g w L hM T; clear F S; (try rw [HL.out] at hM); clear HL; (try simp [Act.put, Act.eval, Value.cells, splice] at hM); have HL := Lib.hid hM; clear hM; have S := T; clear T; have F := factsAll HL S; (try simp only [factsOf, cellsFrom, and_true, true_and, Nat.reduceAdd] at F)) | (first | (refine wpList_load_lit rfl S _ _ rfl Try.underlying3 1 _ _ _ _ (atOf HL rfl) rfl (by simp) (by simp; omega) ?_; intro q hq; clear hq) | (refine wpList_load_lit rfl S _ _ rfl Try.underlying3 2 _ _ _ _ (atOf HL rfl) rfl (by simp) (by simp; omega) ?_; intro q hq; clear hq) | (refine wpList_load_lit rfl S _ _ rfl Try.underlying3 3 _ _ _ _ (atOf HL rfl) rfl (by simp) (by simp; omega) ?_; intro q hq; clear hq)) | (refine wpList_store_box rfl S _ _ _ rfl 2 _ _ _ _ (atOf HL rfl) rfl _ rfl (by kernel_rfl) rfl rfl ?_; intro w L hM T; clear F S; (try rw [HL.out] at hM); clear HL; (try simp [Act.put, Act.eval, Value.cells, splice] at hM); have HL := Lib.hid hM; clear hM; have S := T; clear T; have F := factsAll HL S; (try simp only [factsOf, cellsFrom, and_true, true_and, Nat.reduceAdd] at F)) | (refine wpList_store_box rfl S _ _ _ rfl 3 _ _ _ _ (atOf HL rfl) rfl _ rfl (by kernel_rfl) rfl rfl ?_; intro w L hM T; clear F S; (try rw [HL.out] at hM); clear HL; (try simp [Act.put, Act.eval, Value.cells, splice] at hM); have HL := Lib.hid hM; clear hM; have S := T; clear T; have F := factsAll HL S; (try simp only [factsOf, cellsFrom, and_true, true_and, Nat.reduceAdd] at F)) | (refine wpList_store_box rfl S _ _ _ rfl 4 _ _ _ _ (atOf HL rfl) rfl _ rfl (by kernel_rfl) rfl rfl ?_; intro w L hM T; clear F S; (try rw [HL.out] at hM); clear HL; (try simp [Act.put, Act.eval, Value.cells, splice] at hM); have HL := Lib.hid hM; clear hM; have S := T; clear T; have F := factsAll HL S; (try simp only [factsOf, cellsFrom, and_true, true_and, Nat.reduceAdd] at F)) | ((refine wpList_append_box rfl S _ _ _ rfl 3 _ 1 8 Try.underlying53 infoInt rfl (by omega) _ _ _ _ rfl (by first | exact atOf HL (p := 0) rfl | exact atOf HL (p := 1) rfl | exact atOf HL (p := 2) rfl | exact atOf HL (p := 3) rfl | exact atOf HL (p := 4) rfl | exact atOf HL (p := 5) rfl | exact atOf HL (p := 6) rfl | exact atOf HL (p := 7) rfl) (by omega) _ _ _ _ _ _ rfl (by first | exact atOf HL (p := 0) rfl | exact atOf HL (p := 1) rfl | exact atOf HL (p := 2) rfl | exact atOf HL (p := 3) rfl | exact atOf HL (p := 4) rfl | exact atOf HL (p := 5) rfl | exact atOf HL (p := 6) rfl | exact atOf HL (p := 7) rfl) rfl rfl rfl rfl ?_; intro u w L hM T; clear F S; (try rw [HL.out] at hM); clear HL; (try simp [Act.put, Act.eval, Value.cells, splice] at hM); have HL := Lib.hid hM; clear hM; have S := T; clear T; have F := factsAll HL S; (try simp only [factsOf, cellsFrom, and_true, true_and, Nat.reduceAdd] at F)); first | obtain ⟨A', cap', rfl, hcap', hmax'⟩ := S.sliceOf (atOf HL (p := 1) rfl) | obtain ⟨A', cap', rfl, hcap', hmax'⟩ := S.sliceOf (atOf HL (p := 2) rfl) | obtain ⟨A', cap', rfl, hcap', hmax'⟩ := S.sliceOf (atOf HL (p := 3) rfl)))
        · ((try simp only [Exit.inBlock, Exit.then]); refine ret1 rfl (resCell S HL 4 rfl rfl (by kernel_rfl)) rfl ?_)
          (have T := S.front (atOf HL (p := 2) rfl); rw [HL.out] at T; simp only [List.eraseIdx_cons_succ, List.eraseIdx_cons_zero] at T)
          exact ⟨_, _, _, xs, k' + 1 + 1, rfl, by rw [HLN.out]; omega, by omega, by omega, fun h => absurd h (by omega), by rw [HLN.out]; exact T.sub (by repeat (first | exact .refl _ | exact List.nil_sublist _ | apply List.Sublist.cons_cons | apply List.Sublist.cons))⟩
        · ((try simp only [Exit.inBlock, Exit.then]); refine ret1 rfl (resCell S HL 3 rfl rfl (by kernel_rfl)) rfl ?_)
          (have T := S.front (atOf HL (p := 1) rfl); rw [HL.out] at T; simp only [List.eraseIdx_cons_succ, List.eraseIdx_cons_zero] at T)
          exact ⟨_, _, _, xs, k' + 1, rfl, by rw [HLN.out]; omega, by omega, by omega, fun h => absurd h (by omega), by rw [HLN.out]; exact T.sub (by repeat (first | exact .refl _ | exact List.nil_sublist _ | apply List.Sublist.cons_cons | apply List.Sublist.cons))⟩
        · ((try simp only [Exit.inBlock, Exit.then]); refine ret1 rfl (resCell S HL 4 rfl rfl (by kernel_rfl)) rfl ?_)
          (have T := S.front (atOf HL (p := 2) rfl); rw [HL.out] at T; simp only [List.eraseIdx_cons_succ, List.eraseIdx_cons_zero] at T)
          rw [show [Value.int .i64 1] = ints [1] from rfl, ← ints_append] at T
          refine ⟨_, _, _, xs ++ [1], k' + 1, rfl, by rw [List.length_append, HLN.out]; simp; omega, by omega, by omega, fun h => absurd h (by omega), ?_⟩
          rw [List.length_append, HLN.out]
          exact T.sub (by repeat (first | exact .refl _ | exact List.nil_sublist _ | apply List.Sublist.cons_cons | apply List.Sublist.cons))
        · have hT := congrArg (List.drop 1) HL.out; simp only [List.drop_succ_cons, List.drop_zero] at hT; obtain ⟨L1, hL1⟩ : ∃ M, M = L.drop 1 := ⟨_, rfl⟩; rw [← hL1] at hT; have HL0 := Lib.hid hT; have S1 := S.sub (List.drop_sublist 1 L); rw [← hL1] at S1; have F0 := factsAll HL0 S1; (try simp only [factsOf, cellsFrom, and_true, true_and, Nat.reduceAdd] at F0); clear S1 hL1 hT; refine wp_region_tree (S := fun w' => St w0 w' L1) (.calm 0 (.calm 1 (.calm 3 (.act 2 (.act 4 (.calm 5 (.act 6 (.calm 7 (.act 8 .fin .stop)) .stop)) .stop) (.act 4 (.act 2 (.calm 5 (.act 6 (.calm 7 (.act 8 .fin .stop)) .stop)) .stop) .stop))))) (by kernel_rfl) (by kernel_rfl) (by kernel_rfl) (by intro c a d v w h; cases d <;> exact h) ?_; replace S := S.drew
          repeat' (first | (first | (refine tree_calm (v := ?_) ?_ rfl (by decide +kernel) rfl ?_ ?_; rotate_left; (focus (first | exact S | (refine S.sub (subL HL0 HL ?_); (repeat (first | exact List.Sublist.refl _ | apply List.Sublist.cons)); done))); (focus (intro w' hS'; (try dsimp only at hS'); go_simp; try rfl)); (try simp only [Act.put, List.setIfInBounds_toArray, List.set_cons_zero, List.set_cons_succ])) | (refine tree_any (v := ?_) ?_ rfl rfl ?_ ?_; rotate_left; (focus (first | exact S | (refine S.sub (subL HL0 HL ?_); (repeat (first | exact List.Sublist.refl _ | apply List.Sublist.cons)); done))); (focus (intro w'; go_simp; try rfl)); (try simp only [Act.put, List.setIfInBounds_toArray, List.set_cons_zero, List.set_cons_succ]))) | (refine tree_skip ?_ rfl rfl ?_; (focus (first | exact S | (refine S.sub (subL HL0 HL ?_); (repeat (first | exact List.Sublist.refl _ | apply List.Sublist.cons)); done))); (try simp only [Act.put, List.setIfInBounds_toArray, List.set_cons_zero, List.set_cons_succ])) | exact tree_stop | (refine tree_act rfl rfl ?_ ?_) | (intro K hK; (refine wp_lit2i S _ _ _ rfl 3 Try.underlying53 infoInt _ _ rfl rfl ?_; intro g w L hM T; clear F S; (try rw [HL.out] at hM); clear HL; (try simp [Act.put, Act.eval, Value.cells, splice] at hM); have HL := Lib.hid hM; clear hM; have S := T; clear T; have F := factsAll HL S; (try simp only [factsOf, cellsFrom, and_true, true_and, Nat.reduceAdd] at F)); (refine hK.out _ _ ?_ ?_; (focus (first | exact fun _ => S | (intro _; refine S.sub (subL HL0 HL ?_); (repeat (first | exact List.Sublist.refl _ | apply List.Sublist.cons)); done) | (refine sink_no ?_; kernel_rfl))); clear hK K; (try simp only [Act.put, List.setIfInBounds_toArray, List.set_cons_zero, List.set_cons_succ]))) | (intro K hK; (first | (refine wp_load_lit S _ _ rfl Try.underlying3 0 _ _ _ _ (atOf HL rfl) rfl (by simp) (by simp; omega) ?_; intro q' hq'; have hq' := id hq'; simp only [List.mem_cons, Value.int.injEq, true_and, List.not_mem_nil, or_false] at hq') | (refine wp_load_lit S _ _ rfl Try.underlying3 1 _ _ _ _ (atOf HL rfl) rfl (by simp) (by simp; omega) ?_; intro q' hq'; have hq' := id hq'; simp only [List.mem_cons, Value.int.injEq, true_and, List.not_mem_nil, or_false] at hq') | (refine wp_load_lit S _ _ rfl Try.underlying3 2 _ _ _ _ (atOf HL rfl) rfl (by simp) (by simp; omega) ?_; intro q' hq'; have hq' := id hq'; simp only [List.mem_cons, Value.int.injEq, true_and, List.not_mem_nil, or_false] at hq') | (refine wp_load_lit S _ _ rfl Try.underlying3 3 _ _ _ _ (atOf HL rfl) rfl (by simp) (by simp; omega) ?_; intro q' hq'; have hq' := id hq'; simp only [List.mem_cons, Value.int.injEq, true_and, List.not_mem_nil, or_false] at hq')); (refine hK.out _ _ ?_ ?_; (focus (first | exact fun _ => S | (intro _; refine S.sub (subL HL0 HL ?_); (repeat (first | exact List.Sublist.refl _ | apply List.Sublist.cons)); done) | (refine sink_no ?_; kernel_rfl))); clear hK K; (try simp only [Act.put, List.setIfInBounds_toArray, List.set_cons_zero, List.set_cons_succ]))) | (intro K hK; (refine wp_store_row S _ _ _ rfl 2 _ _ _ _ _ _ _ (atOf HL rfl) rfl (.int .i64 q') rfl (by kernel_rfl) rfl (by omega) ?_; intro w L hM T; clear F S; (try rw [HL.out] at hM); clear HL; (try simp [Act.put, Act.eval, Value.cells, splice] at hM); have HL := Lib.hid hM; clear hM; have S := T; clear T; have F := factsAll HL S; (try simp only [factsOf, cellsFrom, and_true, true_and, Nat.reduceAdd] at F)); (refine hK.out _ _ ?_ ?_; (focus (first | exact fun _ => S | (intro _; refine S.sub (subL HL0 HL ?_); (repeat (first | exact List.Sublist.refl _ | apply List.Sublist.cons)); done) | (refine sink_no ?_; kernel_rfl))); clear hK K; (try simp only [Act.put, List.setIfInBounds_toArray, List.set_cons_zero, List.set_cons_succ]))) | (intro K hK; go_wp2_with (first | ((go_at_call 35; refine (C_pick _ _ _ _ _ w0 _ (S.front (by first | exact atOf HL (p := 0) rfl | exact atOf HL (p := 1) rfl | exact atOf HL (p := 2) rfl | exact atOf HL (p := 3) rfl | exact atOf HL (p := 4) rfl | exact atOf HL (p := 5) rfl | exact atOf HL (p := 6) rfl | exact atOf HL (p := 7) rfl)) HB.out ⟨by omega, by omega⟩).mono ?_; rintro e w ⟨y, rfl, hy0, T0⟩; obtain ⟨L, hM, T⟩ := st_name T0; clear T0; clear F S; (try rw [HL.out] at hM); clear HL; (try simp only [List.eraseIdx_cons_zero, List.eraseIdx_cons_succ] at hM); have HL := Lib.hid hM; clear hM; have S := T; clear T; have F := factsAll HL S; (try simp only [factsOf, cellsFrom, and_true, true_and, Nat.reduceAdd] at F)); have hy := hy0 (by omega); clear hy0; obtain ⟨j, hj, hjl, hjw⟩ := quo_nat hy.1 (by omega); (try (have hj2 : (j : Int) < 2 := by omega)))); (refine hK.out _ _ ?_ ?_; (focus (first | exact fun _ => S | (intro _; refine S.sub (subL HL0 HL ?_); (repeat (first | exact List.Sublist.refl _ | apply List.Sublist.cons)); done) | (refine sink_no ?_; kernel_rfl))); clear hK K; (try simp only [Act.put, List.setIfInBounds_toArray, List.set_cons_zero, List.set_cons_succ]))))
          all_goals
            refine tree_fin ?_
            clear HL0 F0
            go_wp2_with (first | (refine wpList_store_box rfl S _ _ _ rfl 3 _ _ _ _ (atOf HL rfl) rfl _ rfl (by kernel_rfl) rfl rfl ?_; intro w L hM T; clear F S; (try rw [HL.out] at hM); clear HL; (try simp [Act.put, Act.eval, Value.cells, splice] at hM); have HL := Lib.hid hM; clear hM; have S := T; clear T; have F := factsAll HL S; (try simp only [factsOf, cellsFrom, and_true, true_and, Nat.reduceAdd] at F)) | (refine wpList_store_box rfl S _ _ _ rfl 4 _ _ _ _ (atOf HL rfl) rfl _ rfl (by kernel_rfl) rfl rfl ?_; intro w L hM T; clear F S; (try rw [HL.out] at hM); clear HL; (try simp [Act.put, Act.eval, Value.cells, splice] at hM); have HL := Lib.hid hM; clear hM; have S := T; clear T; have F := factsAll HL S; (try simp only [factsOf, cellsFrom, and_true, true_and, Nat.reduceAdd] at F)))
            ((try simp only [Exit.inBlock, Exit.then]); refine ret1 rfl (resCell S HL 4 rfl rfl (by kernel_rfl)) rfl ?_)
            (have T := S.front (atOf HL (p := 2) rfl); rw [HL.out] at T; simp only [List.eraseIdx_cons_succ, List.eraseIdx_cons_zero] at T)
            rw [← ints_set] at T
            exact ⟨_, _, _, xs.set 0 q', k' + 1 + 1, rfl, by rw [List.length_set, HLN.out]; omega, by omega, by omega, fun h => absurd h (by omega), by rw [List.length_set, HLN.out]; exact T.sub (by repeat (first | exact .refl _ | exact List.nil_sublist _ | apply List.Sublist.cons_cons | apply List.Sublist.cons))⟩
        · ((try simp only [Exit.inBlock, Exit.then]); refine ret1 rfl (resCell S HL 3 rfl rfl (by kernel_rfl)) rfl ?_)
          (have T := S.front (atOf HL (p := 1) rfl); rw [HL.out] at T; simp only [List.eraseIdx_cons_succ, List.eraseIdx_cons_zero] at T)
          exact ⟨_, _, _, xs, k', rfl, by rw [HLN.out]; omega, by omega, by omega, fun h => absurd h (by omega), by rw [HLN.out]; exact T.sub (by repeat (first | exact .refl _ | exact List.nil_sublist _ | apply List.Sublist.cons_cons | apply List.Sublist.cons))⟩
      · obtain rfl : m = 0 := by omega
        go_wp2_with (first | (go_at_call 72; refine (C_odd0 _ _ _ _ w0 _ (S.front (by first | exact atOf HL (p := 0) rfl | exact atOf HL (p := 1) rfl | exact atOf HL (p := 2) rfl | exact atOf HL (p := 3) rfl | exact atOf HL (p := 4) rfl | exact atOf HL (p := 5) rfl | exact atOf HL (p := 6) rfl | exact atOf HL (p := 7) rfl))).mono ?_; rintro e w ⟨rfl, T0⟩; obtain ⟨L, hM, T⟩ := st_name T0; clear T0; clear F S; (try rw [HL.out] at hM); clear HL; (try simp only [List.eraseIdx_cons_zero, List.eraseIdx_cons_succ] at hM); have HL := Lib.hid hM; clear hM; have S := T; clear T; have F := factsAll HL S; (try simp only [factsOf, cellsFrom, and_true, true_and, Nat.reduceAdd] at F)) | (refine wpList_store_box rfl S _ _ _ rfl 3 _ _ _ _ (atOf HL rfl) rfl _ rfl (by kernel_rfl) rfl rfl ?_; intro w L hM T; clear F S; (try rw [HL.out] at hM); clear HL; (try simp [Act.put, Act.eval, Value.cells, splice] at hM); have HL := Lib.hid hM; clear hM; have S := T; clear T; have F := factsAll HL S; (try simp only [factsOf, cellsFrom, and_true, true_and, Nat.reduceAdd] at F)))
        ((try simp only [Exit.inBlock, Exit.then]); refine ret1 rfl (resCell S HL 3 rfl rfl (by kernel_rfl)) rfl ?_)
        (have T := S.front (atOf HL (p := 1) rfl); rw [HL.out] at T; simp only [List.eraseIdx_cons_succ, List.eraseIdx_cons_zero] at T)
        exact ⟨_, _, _, xs, k', rfl, by rw [HLN.out]; omega, by omega, by omega, fun _ => ⟨rfl, rfl, HLN.out.trans HNN.out.symm, HA.out⟩, by rw [HLN.out]; exact T.sub (by repeat (first | exact .refl _ | exact List.nil_sublist _ | apply List.Sublist.cons_cons | apply List.Sublist.cons))⟩
theorem C_l20MatrixG (R : List Ent) (gr : Nat) (v : Value) (k m : Int) (A B : Nat) (w0 w1 : World) (hAB : (1 ≤ A ∧ A ≤ 5) ∧ 1 ≤ B ∧ B ≤ 5) (hm : 0 ≤ m) (S0 : St w0 w1 (.box gr 108 [v, .int .i64 k] :: R)) (hB : Bytes w0 v) (hk : 0 ≤ k ∧ k ≤ 600000000) :
    Calls Try.prog 61 #[.pointer (some ⟨gr, 0, none⟩), .int .i64 A, .int .i64 B, .int .i64 m] w1 (DrawsMx R gr v k m A B w0) :=
  C_l20Matrix R gr v k m A B (A * B) w0 w1 S0 hB hk hAB.1.1 hAB.1.2 hAB.2.1 hAB.2.2 rfl (by have : A * B ≤ 5 * 5 := Nat.mul_le_mul hAB.1.2 hAB.2.2; omega) hm

/-! ### Contracts of what draws layers (begun). -/
open Go Go.RowKit
set_option maxHeartbeats 8000000
set_option maxRecDepth 20000
theorem fill3 (C : Array Value) (hC : C.size = 3) (a b c : Value) : Instr.fill (fun i => some (i * 3, 3)) C [(0, .agg #[a, b, c])] = some #[a, b, c] := by
  obtain ⟨l⟩ := C
  match l, hC with
  | [_, _, _], _ => simp [Instr.fill, Value.cells]
theorem fill333 (C : Array Value) (hC : C.size = 9) (a b c d e f g h i : Value) : Instr.fill (fun i => some (i * 3, 3)) C [(0, .agg #[a, b, c]), (1, .agg #[d, e, f]), (2, .agg #[g, h, i])] = some #[a, b, c, d, e, f, g, h, i] := by
  obtain ⟨l⟩ := C
  match l, hC with
  | [_, _, _, _, _, _, _, _, _], _ => simp [Instr.fill, Value.cells]
section
variable {P : Program} {w0 w : World} {a : Act} {L : List Ent} {o : Oper} {ops : Array Oper} {rest : List Oper} {Q : Exit → Act → World → Prop}
theorem wpList_lit3 (hgd : o.guard = none) (S : St w0 w L) (t : TypeId) (x : Operand) (ho : o.op = .buildSlice t 1 #[(0, x)])
    (e : TypeId) (ht : P.underlying t = some (.slice e)) {z : Value} {bytes : Nat} (hi : (P.info? e).map (fun i => (i.zero, i.size, i.bytes)) = some (some z, 3, bytes))
    (c0 c1 c2 : Value) (hx : a.eval x = .agg #[c0, c1, c2])
    (h : ∀ g w' M, M = .box g e [c0, c1, c2] :: L → St w0 w' M → wpList P ops Q rest (a.put o.dst (.slice (some ⟨g, 0, none⟩) 1 1)) w') : wpList P ops Q (o :: rest) a w :=
  wpList_litS hgd S t 1 _ ho e ht hi #[c0, c1, c2] (fun C hC => by
    show Instr.fill _ C [(0, a.eval x)] = _
    rw [hx]; exact fill3 C hC _ _ _) (by omega) (by omega) h
theorem wpList_lit333 (hgd : o.guard = none) (S : St w0 w L) (t : TypeId) (x y z' : Operand) (ho : o.op = .buildSlice t 3 #[(0, x), (1, y), (2, z')])
    (e : TypeId) (ht : P.underlying t = some (.slice e)) {z : Value} {bytes : Nat} (hi : (P.info? e).map (fun i => (i.zero, i.size, i.bytes)) = some (some z, 3, bytes))
    (c0 c1 c2 d0 d1 d2 e0 e1 e2 : Value) (hx : a.eval x = .agg #[c0, c1, c2]) (hy : a.eval y = .agg #[d0, d1, d2]) (hz : a.eval z' = .agg #[e0, e1, e2])
    (h : ∀ g w' M, M = .box g e [c0, c1, c2, d0, d1, d2, e0, e1, e2] :: L → St w0 w' M → wpList P ops Q rest (a.put o.dst (.slice (some ⟨g, 0, none⟩) 3 3)) w') : wpList P ops Q (o :: rest) a w :=
  wpList_litS hgd S t 3 _ ho e ht hi #[c0, c1, c2, d0, d1, d2, e0, e1, e2] (fun C hC => by
    show Instr.fill _ C [(0, a.eval x), (1, a.eval y), (2, a.eval z')] = _
    rw [hx, hy, hz]; exact fill333 C hC _ _ _ _ _ _ _ _ _) (by omega) (by omega) h
end
/-- A layer is drawn: the reader, its matrices behind it. -/
def DrawsLy (R : List Ent) (g : Nat) (v : Value) (k kind m : Int) (w0 : World) (e : Ending) (w' : World) : Prop :=
  ∃ (u : Value) (kd : Int) (ps : MsO) (k' : Int), e = .returned (.agg #[.int .i64 kd, u]) ∧ k ≤ k' ∧ k' ≤ k + 3000 ∧ (ps.length ≤ 4 ∧ ∀ p ∈ ps, p.2.xs.length ≤ 26) ∧ (m = 0 → kd = kind ∧ (kind = 1 → ∃ (p : Value × Mx) (q : MsO) (A : Nat), ps = p :: q ∧ p.2.r = A ∧ 1 ≤ A ∧ A ≤ 3)) ∧ St w0 w' (.box g 108 [v, .int .i64 k'] :: (entsM u ps ++ R))
theorem drawsLy_two {R : List Ent} {g : Nat} {v : Value} {k kind m : Int} {w0 w : World} {kd k' : Int} {u v1 v2 : Value} {r1 c1 r2 c2 : Int} {x1 x2 : List Int}
    (T : St w0 w (.box g 108 [v, .int .i64 k'] :: .row 55 3 u 2 [.int .i64 r1, .int .i64 c1, v1, .int .i64 r2, .int .i64 c2, v2] :: .row 3 1 v1 x1.length (ints x1) :: .row 3 1 v2 x2.length (ints x2) :: R))
    (h1 : k ≤ k') (h2 : k' ≤ k + 3000) (hx : x1.length ≤ 26 ∧ x2.length ≤ 26) (hm : m = 0 → kd = kind ∧ (kind = 1 → ∃ A : Nat, r1 = A ∧ 1 ≤ A ∧ A ≤ 3)) : DrawsLy R g v k kind m w0 (.returned (.agg #[.int .i64 kd, u])) w :=
  ⟨u, kd, [(v1, ⟨r1, c1, x1⟩), (v2, ⟨r2, c2, x2⟩)], k', rfl, h1, h2, ⟨by simp, by simpa using hx⟩, fun h => ⟨(hm h).1, fun hk => by
    obtain ⟨A, ha, hb⟩ := (hm h).2 hk
    exact ⟨_, _, A, rfl, ha, hb⟩⟩, T⟩
theorem C_l20LayerOne (R : List Ent) (gr : Nat) (v : Value) (k : Int) (A B : Nat) (w0 w1 : World) (hAB : (1 ≤ A ∧ A ≤ 5) ∧ 1 ≤ B ∧ B ≤ 5) (S0 : St w0 w1 (.box gr 108 [v, .int .i64 k] :: R)) (hB : Bytes w0 v) (hk : 0 ≤ k ∧ k ≤ 400000000) :
    Calls Try.prog 80 #[.pointer (some ⟨gr, 0, none⟩), .int .i64 1, .int .i64 A, .int .i64 B, .int .i64 0] w1 (DrawsLy R gr v k 1 0 w0) := by
  have HB := Lib.hid hB
  obtain ⟨k1, k2⟩ := hk
  obtain ⟨⟨A1, A2⟩, B1, B2⟩ := hAB
  clear hB
  obtain ⟨L, HL, S⟩ := st_name S0
  clear S0
  replace HL := Lib.hid HL
  have F := factsAll HL S
  simp only [factsOf, cellsFrom, and_true, true_and, Nat.reduceAdd] at F
  go_enter Try.func80, Try.ntmps80
  go_upto_region 1 with (first | (refine wpList_alloc rfl S 33 _ rfl zLy ?_; intro g10 w L hM T; clear F S; (try rw [HL.out] at hM); clear HL; (try simp [Act.put, Act.eval, Value.cells, splice] at hM); have HL := Lib.hid hM; clear hM; have S := T; clear T; have F := factsAll HL S; (try simp only [factsOf, cellsFrom, and_true, true_and, Nat.reduceAdd] at F)))
  go_upto_region 4 with (first | (refine wpList_alloc rfl S 33 _ rfl zLy ?_; intro g11 w L hM T; clear F S; (try rw [HL.out] at hM); clear HL; (try simp [Act.put, Act.eval, Value.cells, splice] at hM); have HL := Lib.hid hM; clear hM; have S := T; clear T; have F := factsAll HL S; (try simp only [factsOf, cellsFrom, and_true, true_and, Nat.reduceAdd] at F)) | (refine wpList_store_box rfl S _ _ _ rfl 0 _ _ _ _ (atOf HL rfl) rfl _ rfl (by kernel_rfl) rfl rfl ?_; intro w L hM T; clear F S; (try rw [HL.out] at hM); clear HL; (try simp [Act.put, Act.eval, Value.cells, splice] at hM); have HL := Lib.hid hM; clear hM; have S := T; clear T; have F := factsAll HL S; (try simp only [factsOf, cellsFrom, and_true, true_and, Nat.reduceAdd] at F)))
  go_upto_region 5 with (first | ((go_at_call 35; refine (C_pick _ _ _ _ _ w0 _ (S.front (by first | exact atOf HL (p := 0) rfl | exact atOf HL (p := 1) rfl | exact atOf HL (p := 2) rfl | exact atOf HL (p := 3) rfl | exact atOf HL (p := 4) rfl | exact atOf HL (p := 5) rfl | exact atOf HL (p := 6) rfl | exact atOf HL (p := 7) rfl)) HB.out ⟨by omega, by omega⟩).mono ?_; rintro e w ⟨y, rfl, hy0, T0⟩; obtain ⟨L, hM, T⟩ := st_name T0; clear T0; clear F S; (try rw [HL.out] at hM); clear HL; (try simp only [List.eraseIdx_cons_zero, List.eraseIdx_cons_succ] at hM); have HL := Lib.hid hM; clear hM; have S := T; clear T; have F := factsAll HL S; (try simp only [factsOf, cellsFrom, and_true, true_and, Nat.reduceAdd] at F)); have hy := hy0 (by omega); clear hy0; obtain ⟨j, hj⟩ : ∃ j : Nat, 1 + y = (j : Int) := ⟨(1 + y).toNat, by omega⟩))
  have j1 : 1 ≤ j := by omega
  have j2 : j ≤ 3 := by omega
  go_upto_region 8 with (first | ((go_at_call 61; refine (C_l20MatrixG _ _ _ _ _ _ _ w0 _ ⟨⟨by omega, by omega⟩, by omega, by omega⟩ (by omega) (S.front (by first | exact atOf HL (p := 0) rfl | exact atOf HL (p := 1) rfl | exact atOf HL (p := 2) rfl | exact atOf HL (p := 3) rfl | exact atOf HL (p := 4) rfl | exact atOf HL (p := 5) rfl | exact atOf HL (p := 6) rfl | exact atOf HL (p := 7) rfl)) HB.out ⟨by omega, by omega⟩).mono ?_; rintro e w ⟨u3, mr, mc, xs3, k3, rfl, hxl3, hk5, hk6, hrc3, T0⟩; obtain ⟨L, hM, T⟩ := st_name T0; clear T0; clear F S; (try rw [HL.out] at hM); clear HL; (try simp only [List.eraseIdx_cons_zero, List.eraseIdx_cons_succ] at hM); have HL := Lib.hid hM; clear hM; have S := T; clear T; have F := factsAll HL S; (try simp only [factsOf, cellsFrom, and_true, true_and, Nat.reduceAdd] at F)); obtain ⟨A', cap', rfl, hcap', hmax'⟩ := S.sliceOf (atOf HL (p := 0) rfl); obtain ⟨rfl, rfl, hxn, hall⟩ := hrc3 rfl; clear hrc3 hxn hall) | ((go_at_call 61; refine (C_l20MatrixG _ _ _ _ _ _ 1 w0 _ ⟨⟨by omega, by omega⟩, by omega, by omega⟩ (by omega) (S.front (by first | exact atOf HL (p := 0) rfl | exact atOf HL (p := 1) rfl | exact atOf HL (p := 2) rfl | exact atOf HL (p := 3) rfl | exact atOf HL (p := 4) rfl | exact atOf HL (p := 5) rfl | exact atOf HL (p := 6) rfl | exact atOf HL (p := 7) rfl)) HB.out ⟨by omega, by omega⟩).mono ?_; rintro e w ⟨u3, mr, mc, xs3, k3, rfl, hxl3, hk5, hk6, hrc3, T0⟩; obtain ⟨L, hM, T⟩ := st_name T0; clear T0; clear F S; (try rw [HL.out] at hM); clear HL; (try simp only [List.eraseIdx_cons_zero, List.eraseIdx_cons_succ] at hM); have HL := Lib.hid hM; clear hM; have S := T; clear T; have F := factsAll HL S; (try simp only [factsOf, cellsFrom, and_true, true_and, Nat.reduceAdd] at F)); obtain ⟨A', cap', rfl, hcap', hmax'⟩ := S.sliceOf (atOf HL (p := 0) rfl); obtain ⟨rfl, rfl, hxn, hall⟩ := hrc3 rfl; clear hrc3 hxn hall) | (refine wpList_lit33 rfl S _ _ _ rfl 55 Try.underlying31 infoMx _ _ _ _ _ _ rfl rfl ?_; intro g w L hM T; clear F S; (try rw [HL.out] at hM); clear HL; (try simp [Act.put, Act.eval, Value.cells, splice] at hM); have HL := Lib.hid hM; clear hM; have S := T; clear T; have F := factsAll HL S; (try simp only [factsOf, cellsFrom, and_true, true_and, Nat.reduceAdd] at F)) | (refine wpList_store_box rfl S _ _ _ rfl 3 _ _ _ _ (atOf HL rfl) rfl _ rfl (by kernel_rfl) rfl rfl ?_; intro w L hM T; clear F S; (try rw [HL.out] at hM); clear HL; (try simp [Act.put, Act.eval, Value.cells, splice] at hM); have HL := Lib.hid hM; clear hM; have S := T; clear T; have F := factsAll HL S; (try simp only [factsOf, cellsFrom, and_true, true_and, Nat.reduceAdd] at F)) | (refine wpList_store_box rfl S _ _ _ rfl 4 _ _ _ _ (atOf HL rfl) rfl _ rfl (by kernel_rfl) rfl rfl ?_; intro w L hM T; clear F S; (try rw [HL.out] at hM); clear HL; (try simp [Act.put, Act.eval, Value.cells, splice] at hM); have HL := Lib.hid hM; clear hM; have S := T; clear T; have F := factsAll HL S; (try simp only [factsOf, cellsFrom, and_true, true_and, Nat.reduceAdd] at F)) | (refine wpList_store_box rfl S _ _ _ rfl 5 _ _ _ _ (atOf HL rfl) rfl _ rfl (by kernel_rfl) rfl rfl ?_; intro w L hM T; clear F S; (try rw [HL.out] at hM); clear HL; (try simp [Act.put, Act.eval, Value.cells, splice] at hM); have HL := Lib.hid hM; clear hM; have S := T; clear T; have F := factsAll HL S; (try simp only [factsOf, cellsFrom, and_true, true_and, Nat.reduceAdd] at F)))
  go_wp2_with (first | (go_at_call 72; refine (C_odd0 _ _ _ _ w0 _ (S.front (by first | exact atOf HL (p := 0) rfl | exact atOf HL (p := 1) rfl | exact atOf HL (p := 2) rfl | exact atOf HL (p := 3) rfl | exact atOf HL (p := 4) rfl | exact atOf HL (p := 5) rfl | exact atOf HL (p := 6) rfl | exact atOf HL (p := 7) rfl))).mono ?_; rintro e w ⟨rfl, T0⟩; obtain ⟨L, hM, T⟩ := st_name T0; clear T0; clear F S; (try rw [HL.out] at hM); clear HL; (try simp only [List.eraseIdx_cons_zero, List.eraseIdx_cons_succ] at hM); have HL := Lib.hid hM; clear hM; have S := T; clear T; have F := factsAll HL S; (try simp only [factsOf, cellsFrom, and_true, true_and, Nat.reduceAdd] at F)) | (refine wpList_store_box rfl S _ _ _ rfl 4 _ _ _ _ (atOf HL rfl) rfl _ rfl (by kernel_rfl) rfl rfl ?_; intro w L hM T; clear F S; (try rw [HL.out] at hM); clear HL; (try simp [Act.put, Act.eval, Value.cells, splice] at hM); have HL := Lib.hid hM; clear hM; have S := T; clear T; have F := factsAll HL S; (try simp only [factsOf, cellsFrom, and_true, true_and, Nat.reduceAdd] at F)) | (refine wpList_store_box rfl S _ _ _ rfl 5 _ _ _ _ (atOf HL rfl) rfl _ rfl (by kernel_rfl) rfl rfl ?_; intro w L hM T; clear F S; (try rw [HL.out] at hM); clear HL; (try simp [Act.put, Act.eval, Value.cells, splice] at hM); have HL := Lib.hid hM; clear hM; have S := T; clear T; have F := factsAll HL S; (try simp only [factsOf, cellsFrom, and_true, true_and, Nat.reduceAdd] at F)))
  ((try simp only [Exit.inBlock, Exit.then]); refine ret1 rfl (resCell S HL 5 rfl rfl (by kernel_rfl)) rfl ?_)
  rw [HL.out] at S
  have T := S.asRow (p := 1) (size := 3) (n := 2) rfl rfl (by simp [maxLen])
  simp only [List.set_cons_zero, List.set_cons_succ] at T
  have T1 := T.front (p := 2) (show At _ 2 _ from rfl)
  simp only [List.eraseIdx_cons_succ, List.eraseIdx_cons_zero] at T1
  have T2 := T1.front (p := 3) (show At _ 3 _ from rfl)
  simp only [List.eraseIdx_cons_succ, List.eraseIdx_cons_zero] at T2
  have T3 := T2.front (p := 3) (show At _ 3 _ from rfl)
  simp only [List.eraseIdx_cons_succ, List.eraseIdx_cons_zero] at T3
  have T4 := T3.front (p := 3) (show At _ 3 _ from rfl)
  simp only [List.eraseIdx_cons_succ, List.eraseIdx_cons_zero] at T4
  exact drawsLy_two (T4.sub (.cons_cons _ (.cons_cons _ (.cons_cons _ (.cons_cons _ (.cons _ (.cons _ (.refl _)))))))) (by omega) (by omega) (by omega) fun _ => ⟨rfl, fun _ => ⟨j, rfl, j1, j2⟩⟩
theorem C_l20LayerTwo (R : List Ent) (gr : Nat) (v : Value) (k : Int) (A B : Nat) (w0 w1 : World) (hAB : (1 ≤ A ∧ A ≤ 5) ∧ 1 ≤ B ∧ B ≤ 5) (S0 : St w0 w1 (.box gr 108 [v, .int .i64 k] :: R)) (hB : Bytes w0 v) (hk : 0 ≤ k ∧ k ≤ 400000000) :
    Calls Try.prog 80 #[.pointer (some ⟨gr, 0, none⟩), .int .i64 2, .int .i64 A, .int .i64 B, .int .i64 0] w1 (DrawsLy R gr v k 2 0 w0) := by
  have HB := Lib.hid hB
  obtain ⟨k1, k2⟩ := hk
  obtain ⟨⟨A1, A2⟩, B1, B2⟩ := hAB
  clear hB
  obtain ⟨L, HL, S⟩ := st_name S0
  clear S0
  replace HL := Lib.hid HL
  have F := factsAll HL S
  simp only [factsOf, cellsFrom, and_true, true_and, Nat.reduceAdd] at F
  go_enter Try.func80, Try.ntmps80
  go_upto_region 1 with (first | (refine wpList_alloc rfl S 33 _ rfl zLy ?_; intro g10 w L hM T; clear F S; (try rw [HL.out] at hM); clear HL; (try simp [Act.put, Act.eval, Value.cells, splice] at hM); have HL := Lib.hid hM; clear hM; have S := T; clear T; have F := factsAll HL S; (try simp only [factsOf, cellsFrom, and_true, true_and, Nat.reduceAdd] at F)))
  go_upto_region 3 with (first | (refine wpList_alloc rfl S 33 _ rfl zLy ?_; intro g11 w L hM T; clear F S; (try rw [HL.out] at hM); clear HL; (try simp [Act.put, Act.eval, Value.cells, splice] at hM); have HL := Lib.hid hM; clear hM; have S := T; clear T; have F := factsAll HL S; (try simp only [factsOf, cellsFrom, and_true, true_and, Nat.reduceAdd] at F)) | (refine wpList_store_box rfl S _ _ _ rfl 0 _ _ _ _ (atOf HL rfl) rfl _ rfl (by kernel_rfl) rfl rfl ?_; intro w L hM T; clear F S; (try rw [HL.out] at hM); clear HL; (try simp [Act.put, Act.eval, Value.cells, splice] at hM); have HL := Lib.hid hM; clear hM; have S := T; clear T; have F := factsAll HL S; (try simp only [factsOf, cellsFrom, and_true, true_and, Nat.reduceAdd] at F)))
  go_wp2_with (first | (go_at_call 72; refine (C_odd0 _ _ _ _ w0 _ (S.front (by first | exact atOf HL (p := 0) rfl | exact atOf HL (p := 1) rfl | exact atOf HL (p := 2) rfl | exact atOf HL (p := 3) rfl | exact atOf HL (p := 4) rfl | exact atOf HL (p := 5) rfl | exact atOf HL (p := 6) rfl | exact atOf HL (p := 7) rfl))).mono ?_; rintro e w ⟨rfl, T0⟩; obtain ⟨L, hM, T⟩ := st_name T0; clear T0; clear F S; (try rw [HL.out] at hM); clear HL; (try simp only [List.eraseIdx_cons_zero, List.eraseIdx_cons_succ] at hM); have HL := Lib.hid hM; clear hM; have S := T; clear T; have F := factsAll HL S; (try simp only [factsOf, cellsFrom, and_true, true_and, Nat.reduceAdd] at F)) | (refine wpList_store_box rfl S _ _ _ rfl 1 _ _ _ _ (atOf HL rfl) rfl _ rfl (by kernel_rfl) rfl rfl ?_; intro w L hM T; clear F S; (try rw [HL.out] at hM); clear HL; (try simp [Act.put, Act.eval, Value.cells, splice] at hM); have HL := Lib.hid hM; clear hM; have S := T; clear T; have F := factsAll HL S; (try simp only [factsOf, cellsFrom, and_true, true_and, Nat.reduceAdd] at F)) | (refine wpList_store_box rfl S _ _ _ rfl 2 _ _ _ _ (atOf HL rfl) rfl _ rfl (by kernel_rfl) rfl rfl ?_; intro w L hM T; clear F S; (try rw [HL.out] at hM); clear HL; (try simp [Act.put, Act.eval, Value.cells, splice] at hM); have HL := Lib.hid hM; clear hM; have S := T; clear T; have F := factsAll HL S; (try simp only [factsOf, cellsFrom, and_true, true_and, Nat.reduceAdd] at F)))
  ((try simp only [Exit.inBlock, Exit.then]); refine ret1 rfl (resCell S HL 2 rfl rfl (by kernel_rfl)) rfl ?_)
  rw [HL.out] at S
  have T := (S.nilRow 55 3).front (p := 1) (show At _ 1 _ from rfl)
  simp only [List.eraseIdx_cons_succ, List.eraseIdx_cons_zero] at T
  exact ⟨_, _, [], k, rfl, by omega, by omega, ⟨by simp, by simp⟩, fun _ => ⟨rfl, fun h => absurd h (by omega)⟩, T.sub (.cons_cons _ (.cons_cons _ (.cons _ (.cons _ (.refl _)))))⟩
theorem drawsLy_three {R : List Ent} {g : Nat} {v : Value} {k kind m : Int} {w0 w : World} {kd k' : Int} {u v1 v2 v3 : Value} {r1 c1 r2 c2 r3 c3 : Int} {x1 x2 x3 : List Int}
    (T : St w0 w (.box g 108 [v, .int .i64 k'] :: .row 55 3 u 3 [.int .i64 r1, .int .i64 c1, v1, .int .i64 r2, .int .i64 c2, v2, .int .i64 r3, .int .i64 c3, v3] :: .row 3 1 v1 x1.length (ints x1) :: .row 3 1 v2 x2.length (ints x2) :: .row 3 1 v3 x3.length (ints x3) :: R))
    (h1 : k ≤ k') (h2 : k' ≤ k + 3000) (hx : x1.length ≤ 26 ∧ x2.length ≤ 26 ∧ x3.length ≤ 26) (hm : m = 0 → kd = kind ∧ ¬ kind = 1) : DrawsLy R g v k kind m w0 (.returned (.agg #[.int .i64 kd, u])) w :=
  ⟨u, kd, [(v1, ⟨r1, c1, x1⟩), (v2, ⟨r2, c2, x2⟩), (v3, ⟨r3, c3, x3⟩)], k', rfl, h1, h2, ⟨by simp, by simpa using hx⟩, fun h => ⟨(hm h).1, fun hk => absurd hk (hm h).2⟩, T⟩
theorem C_l20LayerThree (R : List Ent) (gr : Nat) (v : Value) (k : Int) (A B : Nat) (w0 w1 : World) (hAB : (1 ≤ A ∧ A ≤ 5) ∧ 1 ≤ B ∧ B ≤ 5) (S0 : St w0 w1 (.box gr 108 [v, .int .i64 k] :: R)) (hB : Bytes w0 v) (hk : 0 ≤ k ∧ k ≤ 400000000) :
    Calls Try.prog 80 #[.pointer (some ⟨gr, 0, none⟩), .int .i64 3, .int .i64 A, .int .i64 B, .int .i64 0] w1 (DrawsLy R gr v k 3 0 w0) := by
  have HB := Lib.hid hB
  obtain ⟨k1, k2⟩ := hk
  obtain ⟨⟨A1, A2⟩, B1, B2⟩ := hAB
  clear hB
  obtain ⟨L, HL, S⟩ := st_name S0
  clear S0
  replace HL := Lib.hid HL
  have F := factsAll HL S
  simp only [factsOf, cellsFrom, and_true, true_and, Nat.reduceAdd] at F
  go_enter Try.func80, Try.ntmps80
  go_upto_region 1 with (first | (refine wpList_alloc rfl S 33 _ rfl zLy ?_; intro g10 w L hM T; clear F S; (try rw [HL.out] at hM); clear HL; (try simp [Act.put, Act.eval, Value.cells, splice] at hM); have HL := Lib.hid hM; clear hM; have S := T; clear T; have F := factsAll HL S; (try simp only [factsOf, cellsFrom, and_true, true_and, Nat.reduceAdd] at F)))
  go_upto_region 3 with (first | (refine wpList_alloc rfl S 33 _ rfl zLy ?_; intro g11 w L hM T; clear F S; (try rw [HL.out] at hM); clear HL; (try simp [Act.put, Act.eval, Value.cells, splice] at hM); have HL := Lib.hid hM; clear hM; have S := T; clear T; have F := factsAll HL S; (try simp only [factsOf, cellsFrom, and_true, true_and, Nat.reduceAdd] at F)) | (refine wpList_store_box rfl S _ _ _ rfl 0 _ _ _ _ (atOf HL rfl) rfl _ rfl (by kernel_rfl) rfl rfl ?_; intro w L hM T; clear F S; (try rw [HL.out] at hM); clear HL; (try simp [Act.put, Act.eval, Value.cells, splice] at hM); have HL := Lib.hid hM; clear hM; have S := T; clear T; have F := factsAll HL S; (try simp only [factsOf, cellsFrom, and_true, true_and, Nat.reduceAdd] at F)))
  go_upto_region 8 with (first | ((go_at_call 61; refine (C_l20MatrixG _ _ _ _ _ _ _ w0 _ ⟨⟨by omega, by omega⟩, by omega, by omega⟩ (by omega) (S.front (by first | exact atOf HL (p := 0) rfl | exact atOf HL (p := 1) rfl | exact atOf HL (p := 2) rfl | exact atOf HL (p := 3) rfl | exact atOf HL (p := 4) rfl | exact atOf HL (p := 5) rfl | exact atOf HL (p := 6) rfl | exact atOf HL (p := 7) rfl)) HB.out ⟨by omega, by omega⟩).mono ?_; rintro e w ⟨u3, mr, mc, xs3, k3, rfl, hxl3, hk5, hk6, hrc3, T0⟩; obtain ⟨L, hM, T⟩ := st_name T0; clear T0; clear F S; (try rw [HL.out] at hM); clear HL; (try simp only [List.eraseIdx_cons_zero, List.eraseIdx_cons_succ] at hM); have HL := Lib.hid hM; clear hM; have S := T; clear T; have F := factsAll HL S; (try simp only [factsOf, cellsFrom, and_true, true_and, Nat.reduceAdd] at F)); obtain ⟨A', cap', rfl, hcap', hmax'⟩ := S.sliceOf (atOf HL (p := 0) rfl); obtain ⟨rfl, rfl, hxn, hall⟩ := hrc3 rfl; clear hrc3 hxn hall) | (refine wpList_lit333 rfl S _ _ _ _ rfl 55 Try.underlying31 infoMx _ _ _ _ _ _ _ _ _ rfl rfl rfl ?_; intro g w L hM T; clear F S; (try rw [HL.out] at hM); clear HL; (try simp [Act.put, Act.eval, Value.cells, splice] at hM); have HL := Lib.hid hM; clear hM; have S := T; clear T; have F := factsAll HL S; (try simp only [factsOf, cellsFrom, and_true, true_and, Nat.reduceAdd] at F)) | (refine wpList_store_box rfl S _ _ _ rfl 3 _ _ _ _ (atOf HL rfl) rfl _ rfl (by kernel_rfl) rfl rfl ?_; intro w L hM T; clear F S; (try rw [HL.out] at hM); clear HL; (try simp [Act.put, Act.eval, Value.cells, splice] at hM); have HL := Lib.hid hM; clear hM; have S := T; clear T; have F := factsAll HL S; (try simp only [factsOf, cellsFrom, and_true, true_and, Nat.reduceAdd] at F)) | (refine wpList_store_box rfl S _ _ _ rfl 4 _ _ _ _ (atOf HL rfl) rfl _ rfl (by kernel_rfl) rfl rfl ?_; intro w L hM T; clear F S; (try rw [HL.out] at hM); clear HL; (try simp [Act.put, Act.eval, Value.cells, splice] at hM); have HL := Lib.hid hM; clear hM; have S := T; clear T; have F := factsAll HL S; (try simp only [factsOf, cellsFrom, and_true, true_and, Nat.reduceAdd] at F)) | (refine wpList_store_box rfl S _ _ _ rfl 5 _ _ _ _ (atOf HL rfl) rfl _ rfl (by kernel_rfl) rfl rfl ?_; intro w L hM T; clear F S; (try rw [HL.out] at hM); clear HL; (try simp [Act.put, Act.eval, Value.cells, splice] at hM); have HL := Lib.hid hM; clear hM; have S := T; clear T; have F := factsAll HL S; (try simp only [factsOf, cellsFrom, and_true, true_and, Nat.reduceAdd] at F)) | (refine wpList_store_box rfl S _ _ _ rfl 6 _ _ _ _ (atOf HL rfl) rfl _ rfl (by kernel_rfl) rfl rfl ?_; intro w L hM T; clear F S; (try rw [HL.out] at hM); clear HL; (try simp [Act.put, Act.eval, Value.cells, splice] at hM); have HL := Lib.hid hM; clear hM; have S := T; clear T; have F := factsAll HL S; (try simp only [factsOf, cellsFrom, and_true, true_and, Nat.reduceAdd] at F)))
  go_wp2_with (first | (go_at_call 72; refine (C_odd0 _ _ _ _ w0 _ (S.front (by first | exact atOf HL (p := 0) rfl | exact atOf HL (p := 1) rfl | exact atOf HL (p := 2) rfl | exact atOf HL (p := 3) rfl | exact atOf HL (p := 4) rfl | exact atOf HL (p := 5) rfl | exact atOf HL (p := 6) rfl | exact atOf HL (p := 7) rfl))).mono ?_; rintro e w ⟨rfl, T0⟩; obtain ⟨L, hM, T⟩ := st_name T0; clear T0; clear F S; (try rw [HL.out] at hM); clear HL; (try simp only [List.eraseIdx_cons_zero, List.eraseIdx_cons_succ] at hM); have HL := Lib.hid hM; clear hM; have S := T; clear T; have F := factsAll HL S; (try simp only [factsOf, cellsFrom, and_true, true_and, Nat.reduceAdd] at F)) | (refine wpList_store_box rfl S _ _ _ rfl 5 _ _ _ _ (atOf HL rfl) rfl _ rfl (by kernel_rfl) rfl rfl ?_; intro w L hM T; clear F S; (try rw [HL.out] at hM); clear HL; (try simp [Act.put, Act.eval, Value.cells, splice] at hM); have HL := Lib.hid hM; clear hM; have S := T; clear T; have F := factsAll HL S; (try simp only [factsOf, cellsFrom, and_true, true_and, Nat.reduceAdd] at F)) | (refine wpList_store_box rfl S _ _ _ rfl 6 _ _ _ _ (atOf HL rfl) rfl _ rfl (by kernel_rfl) rfl rfl ?_; intro w L hM T; clear F S; (try rw [HL.out] at hM); clear HL; (try simp [Act.put, Act.eval, Value.cells, splice] at hM); have HL := Lib.hid hM; clear hM; have S := T; clear T; have F := factsAll HL S; (try simp only [factsOf, cellsFrom, and_true, true_and, Nat.reduceAdd] at F)))
  ((try simp only [Exit.inBlock, Exit.then]); refine ret1 rfl (resCell S HL 6 rfl rfl (by kernel_rfl)) rfl ?_)
  rw [HL.out] at S
  have T := S.asRow (p := 1) (size := 3) (n := 3) rfl rfl (by simp [maxLen])
  simp only [List.set_cons_zero, List.set_cons_succ] at T
  have T1 := T.front (p := 2) (show At _ 2 _ from rfl)
  simp only [List.eraseIdx_cons_succ, List.eraseIdx_cons_zero] at T1
  have T2 := T1.front (p := 3) (show At _ 3 _ from rfl)
  simp only [List.eraseIdx_cons_succ, List.eraseIdx_cons_zero] at T2
  have T3 := T2.front (p := 4) (show At _ 4 _ from rfl)
  simp only [List.eraseIdx_cons_succ, List.eraseIdx_cons_zero] at T3
  have T4 := T3.front (p := 4) (show At _ 4 _ from rfl)
  simp only [List.eraseIdx_cons_succ, List.eraseIdx_cons_zero] at T4
  have T5 := T4.front (p := 4) (show At _ 4 _ from rfl)
  simp only [List.eraseIdx_cons_succ, List.eraseIdx_cons_zero] at T5
  exact drawsLy_three (T5.sub (.cons_cons _ (.cons_cons _ (.cons_cons _ (.cons_cons _ (.cons_cons _ (.cons _ (.cons _ (.refl _))))))))) (by omega) (by omega) (by omega) fun _ => ⟨rfl, by omega⟩

/-! ### Contracts of what draws layers: a layer of kind 1 that may be turned. -/
open Go Go.RowKit
set_option maxHeartbeats 8000000
set_option maxRecDepth 20000
theorem drawsLy_one {R : List Ent} {g : Nat} {v : Value} {k kind m : Int} {w0 w : World} {kd k' : Int} {u v1 : Value} {r1 c1 : Int} {x1 : List Int}
    (T : St w0 w (.box g 108 [v, .int .i64 k'] :: .row 55 3 u 1 [.int .i64 r1, .int .i64 c1, v1] :: .row 3 1 v1 x1.length (ints x1) :: R))
    (h1 : k ≤ k') (h2 : k' ≤ k + 3000) (hx : x1.length ≤ 26) (hm : ¬ m = 0) : DrawsLy R g v k kind m w0 (.returned (.agg #[.int .i64 kd, u])) w :=
  ⟨u, kd, [(v1, ⟨r1, c1, x1⟩)], k', rfl, h1, h2, ⟨by simp, by simpa using hx⟩, fun h => absurd h hm, T⟩
section
variable {P : Program} {w0 w : World} {a : Act} {L : List Ent} {o : Oper} {K : Act → World → Prop} {Q : Exit → Act → World → Prop}
theorem wp_lit3 (S : St w0 w L) (t : TypeId) (x : Operand) (ho : o.op = .buildSlice t 1 #[(0, x)])
    (e : TypeId) (ht : P.underlying t = some (.slice e)) {z : Value} {bytes : Nat} (hi : (P.info? e).map (fun i => (i.zero, i.size, i.bytes)) = some (some z, 3, bytes))
    (c0 c1 c2 : Value) (hx : a.eval x = .agg #[c0, c1, c2])
    (h : ∀ g w' M, M = .box g e [c0, c1, c2] :: L → St w0 w' M → K (a.put o.dst (.slice (some ⟨g, 0, none⟩) 1 1)) w') : o.wp P a w K Q := by
  obtain ⟨i, hi0, hz0, hz1, hz2⟩ := info_parts hi
  refine Go.wp_buildSlice t e 1 _ ho #[c0, c1, c2] i z ht hi0 hz0 (by rw [hz1]; omega) (by rw [hz1]; omega) ?_ (h _ _ _ rfl (S.new e _))
  rw [hz1, Array.toList_map]
  show Instr.fill _ _ [(0, a.eval x)] = _
  rw [hx]
  exact fill3 _ (by simp) _ _ _
end
theorem C_l20LayerOdd (R : List Ent) (gr : Nat) (v : Value) (k : Int) (A B : Nat) (w0 w1 : World) (hAB : (1 ≤ A ∧ A ≤ 5) ∧ 1 ≤ B ∧ B ≤ 5) (S0 : St w0 w1 (.box gr 108 [v, .int .i64 k] :: R)) (hB : Bytes w0 v) (hk : 0 ≤ k ∧ k ≤ 400000000) :
    Calls Try.prog 80 #[.pointer (some ⟨gr, 0, none⟩), .int .i64 1, .int .i64 A, .int .i64 B, .int .i64 1] w1 (DrawsLy R gr v k 1 1 w0) := by
  have HB := Lib.hid hB
  obtain ⟨k1, k2⟩ := hk
  obtain ⟨⟨A1, A2⟩, B1, B2⟩ := hAB
  clear hB
  obtain ⟨L, HL, S⟩ := st_name S0
  clear S0
  replace HL := Lib.hid HL
  have F := factsAll HL S
  simp only [factsOf, cellsFrom, and_true, true_and, Nat.reduceAdd] at F
  go_enter Try.func80, Try.ntmps80
  go_upto_region 1 with (first | (refine wpList_alloc rfl S 33 _ rfl zLy ?_; intro g10 w L hM T; clear F S; (try rw [HL.out] at hM); clear HL; (try simp [Act.put, Act.eval, Value.cells, splice] at hM); have HL := Lib.hid hM; clear hM; have S := T; clear T; have F := factsAll HL S; (try simp only [factsOf, cellsFrom, and_true, true_and, Nat.reduceAdd] at F)))
  go_upto_region 4 with (first | (refine wpList_alloc rfl S 33 _ rfl zLy ?_; intro g11 w L hM T; clear F S; (try rw [HL.out] at hM); clear HL; (try simp [Act.put, Act.eval, Value.cells, splice] at hM); have HL := Lib.hid hM; clear hM; have S := T; clear T; have F := factsAll HL S; (try simp only [factsOf, cellsFrom, and_true, true_and, Nat.reduceAdd] at F)) | (refine wpList_store_box rfl S _ _ _ rfl 0 _ _ _ _ (atOf HL rfl) rfl _ rfl (by kernel_rfl) rfl rfl ?_; intro w L hM T; clear F S; (try rw [HL.out] at hM); clear HL; (try simp [Act.put, Act.eval, Value.cells, splice] at hM); have HL := Lib.hid hM; clear hM; have S := T; clear T; have F := factsAll HL S; (try simp only [factsOf, cellsFrom, and_true, true_and, Nat.reduceAdd] at F)))
  go_upto_region 5 with (first | ((go_at_call 35; refine (C_pick _ _ _ _ _ w0 _ (S.front (by first | exact atOf HL (p := 0) rfl | exact atOf HL (p := 1) rfl | exact atOf HL (p := 2) rfl | exact atOf HL (p := 3) rfl | exact atOf HL (p := 4) rfl | exact atOf HL (p := 5) rfl | exact atOf HL (p := 6) rfl | exact atOf HL (p := 7) rfl)) HB.out ⟨by omega, by omega⟩).mono ?_; rintro e w ⟨y, rfl, hy0, T0⟩; obtain ⟨L, hM, T⟩ := st_name T0; clear T0; clear F S; (try rw [HL.out] at hM); clear HL; (try simp only [List.eraseIdx_cons_zero, List.eraseIdx_cons_succ] at hM); have HL := Lib.hid hM; clear hM; have S := T; clear T; have F := factsAll HL S; (try simp only [factsOf, cellsFrom, and_true, true_and, Nat.reduceAdd] at F)); have hy := hy0 (by omega); clear hy0; obtain ⟨j, hj⟩ : ∃ j : Nat, 1 + y = (j : Int) := ⟨(1 + y).toNat, by omega⟩))
  have j1 : 1 ≤ j := by omega
  have j2 : j ≤ 3 := by omega
  go_upto_region 8 with (first | ((go_at_call 61; refine (C_l20MatrixG _ _ _ _ _ _ _ w0 _ ⟨⟨by omega, by omega⟩, by omega, by omega⟩ (by omega) (S.front (by first | exact atOf HL (p := 0) rfl | exact atOf HL (p := 1) rfl | exact atOf HL (p := 2) rfl | exact atOf HL (p := 3) rfl | exact atOf HL (p := 4) rfl | exact atOf HL (p := 5) rfl | exact atOf HL (p := 6) rfl | exact atOf HL (p := 7) rfl)) HB.out ⟨by omega, by omega⟩).mono ?_; rintro e w ⟨u3, mr, mc, xs3, k3, rfl, hxl3, hk5, hk6, hrc3, T0⟩; obtain ⟨L, hM, T⟩ := st_name T0; clear T0; clear F S; (try rw [HL.out] at hM); clear HL; (try simp only [List.eraseIdx_cons_zero, List.eraseIdx_cons_succ] at hM); have HL := Lib.hid hM; clear hM; have S := T; clear T; have F := factsAll HL S; (try simp only [factsOf, cellsFrom, and_true, true_and, Nat.reduceAdd] at F)); obtain ⟨A', cap', rfl, hcap', hmax'⟩ := S.sliceOf (atOf HL (p := 0) rfl); obtain ⟨rfl, rfl, hxn, hall⟩ := hrc3 rfl; clear hrc3 hxn hall) | ((go_at_call 61; refine (C_l20MatrixG _ _ _ _ _ _ 1 w0 _ ⟨⟨by omega, by omega⟩, by omega, by omega⟩ (by omega) (S.front (by first | exact atOf HL (p := 0) rfl | exact atOf HL (p := 1) rfl | exact atOf HL (p := 2) rfl | exact atOf HL (p := 3) rfl | exact atOf HL (p := 4) rfl | exact atOf HL (p := 5) rfl | exact atOf HL (p := 6) rfl | exact atOf HL (p := 7) rfl)) HB.out ⟨by omega, by omega⟩).mono ?_; rintro e w ⟨u3, mr, mc, xs3, k3, rfl, hxl3, hk5, hk6, hrc3, T0⟩; obtain ⟨L, hM, T⟩ := st_name T0; clear T0; clear F S; (try rw [HL.out] at hM); clear HL; (try simp only [List.eraseIdx_cons_zero, List.eraseIdx_cons_succ] at hM); have HL := Lib.hid hM; clear hM; have S := T; clear T; have F := factsAll HL S; (try simp only [factsOf, cellsFrom, and_true, true_and, Nat.reduceAdd] at F)); obtain ⟨A', cap', rfl, hcap', hmax'⟩ := S.sliceOf (atOf HL (p := 0) rfl); obtain ⟨rfl, rfl, hxn, hall⟩ := hrc3 rfl; clear hrc3 hxn hall) | (refine wpList_lit33 rfl S _ _ _ rfl 55 Try.underlying31 infoMx _ _ _ _ _ _ rfl rfl ?_; intro g w L hM T; clear F S; (try rw [HL.out] at hM); clear HL; (try simp [Act.put, Act.eval, Value.cells, splice] at hM); have HL := Lib.hid hM; clear hM; have S := T; clear T; have F := factsAll HL S; (try simp only [factsOf, cellsFrom, and_true, true_and, Nat.reduceAdd] at F)) | (refine wpList_store_box rfl S _ _ _ rfl 3 _ _ _ _ (atOf HL rfl) rfl _ rfl (by kernel_rfl) rfl rfl ?_; intro w L hM T; clear F S; (try rw [HL.out] at hM); clear HL; (try simp [Act.put, Act.eval, Value.cells, splice] at hM); have HL := Lib.hid hM; clear hM; have S := T; clear T; have F := factsAll HL S; (try simp only [factsOf, cellsFrom, and_true, true_and, Nat.reduceAdd] at F)) | (refine wpList_store_box rfl S _ _ _ rfl 4 _ _ _ _ (atOf HL rfl) rfl _ rfl (by kernel_rfl) rfl rfl ?_; intro w L hM T; clear F S; (try rw [HL.out] at hM); clear HL; (try simp [Act.put, Act.eval, Value.cells, splice] at hM); have HL := Lib.hid hM; clear hM; have S := T; clear T; have F := factsAll HL S; (try simp only [factsOf, cellsFrom, and_true, true_and, Nat.reduceAdd] at F)) | (refine wpList_store_box rfl S _ _ _ rfl 5 _ _ _ _ (atOf HL rfl) rfl _ rfl (by kernel_rfl) rfl rfl ?_; intro w L hM T; clear F S; (try rw [HL.out] at hM); clear HL; (try simp [Act.put, Act.eval, Value.cells, splice] at hM); have HL := Lib.hid hM; clear hM; have S := T; clear T; have F := factsAll HL S; (try simp only [factsOf, cellsFrom, and_true, true_and, Nat.reduceAdd] at F)))
  rw [HL.out] at S
  have T := S.asRow (p := 0) (size := 3) (n := 2) rfl rfl (by simp [maxLen])
  simp only [List.set_cons_zero, List.set_cons_succ] at T
  have T1 := T.front (p := 1) (show At _ 1 _ from rfl)
  simp only [List.eraseIdx_cons_succ, List.eraseIdx_cons_zero] at T1
  have T2 := T1.front (p := 3) (show At _ 3 _ from rfl)
  simp only [List.eraseIdx_cons_succ, List.eraseIdx_cons_zero] at T2
  have T3 := T2.front (p := 2) (show At _ 2 _ from rfl)
  simp only [List.eraseIdx_cons_succ, List.eraseIdx_cons_zero] at T3
  have T4 := T3.front (p := 3) (show At _ 3 _ from rfl)
  simp only [List.eraseIdx_cons_succ, List.eraseIdx_cons_zero] at T4
  clear S HL F T T1 T2 T3
  have S := T4
  clear T4
  obtain ⟨L, hM, T⟩ := st_name S; clear S; have S := T; clear T; have HL := Lib.hid hM; clear hM; have F := factsAll HL S; (try simp only [factsOf, cellsFrom, and_true, true_and, Nat.reduceAdd] at F)
  go_wp2_with (first | (go_at_call 72; refine (C_odd _ _ _ _ _ w0 _ (S.front (by first | exact atOf HL (p := 0) rfl | exact atOf HL (p := 1) rfl | exact atOf HL (p := 2) rfl | exact atOf HL (p := 3) rfl | exact atOf HL (p := 4) rfl | exact atOf HL (p := 5) rfl | exact atOf HL (p := 6) rfl | exact atOf HL (p := 7) rfl)) HB.out ⟨by omega, by omega⟩).mono ?_; rintro e w ⟨y, k', rfl, hk1, hk2, T0⟩; obtain ⟨L, hM, T⟩ := st_name T0; clear T0; clear F S; (try rw [HL.out] at hM); clear HL; (try simp only [List.eraseIdx_cons_zero, List.eraseIdx_cons_succ] at hM); have HL := Lib.hid hM; clear hM; have S := T; clear T; have F := factsAll HL S; (try simp only [factsOf, cellsFrom, and_true, true_and, Nat.reduceAdd] at F)) | ((go_at_call 35; refine (C_pick _ _ _ _ _ w0 _ (S.front (by first | exact atOf HL (p := 0) rfl | exact atOf HL (p := 1) rfl | exact atOf HL (p := 2) rfl | exact atOf HL (p := 3) rfl | exact atOf HL (p := 4) rfl | exact atOf HL (p := 5) rfl | exact atOf HL (p := 6) rfl | exact atOf HL (p := 7) rfl)) HB.out ⟨by omega, by omega⟩).mono ?_; rintro e w ⟨y, rfl, hy0, T0⟩; obtain ⟨L, hM, T⟩ := st_name T0; clear T0; clear F S; (try rw [HL.out] at hM); clear HL; (try simp only [List.eraseIdx_cons_zero, List.eraseIdx_cons_succ] at hM); have HL := Lib.hid hM; clear hM; have S := T; clear T; have F := factsAll HL S; (try simp only [factsOf, cellsFrom, and_true, true_and, Nat.reduceAdd] at F)); have hy := hy0 (by omega); clear hy0) | (refine wpList_lit rfl S _ _ _ rfl 3 Try.underlying53 infoInt (by simp [Act.eval]) (by simp [Act.eval, Value.oneCell']) rfl rfl rfl ?_; intro g w L hM T; clear F S; (try rw [HL.out] at hM); clear HL; (try simp [Act.put, Act.eval, Value.cells, splice] at hM); have HL := Lib.hid hM; clear hM; have S := T; clear T; have F := factsAll HL S; (try simp only [factsOf, cellsFrom, and_true, true_and, Nat.reduceAdd] at F)) | (first | (refine wpList_load_lit rfl S _ _ rfl Try.underlying3 1 _ _ _ _ (atOf HL rfl) rfl (by simp) (by simp; omega) ?_; intro q hq; clear hq) | (refine wpList_load_lit rfl S _ _ rfl Try.underlying3 2 _ _ _ _ (atOf HL rfl) rfl (by simp) (by simp; omega) ?_; intro q hq; clear hq) | (refine wpList_load_lit rfl S _ _ rfl Try.underlying3 3 _ _ _ _ (atOf HL rfl) rfl (by simp) (by simp; omega) ?_; intro q hq; clear hq)) | ((go_at_call 61; refine (C_l20MatrixG _ _ _ _ _ 2 2 w0 _ ⟨⟨by omega, by omega⟩, by omega, by omega⟩ (by omega) (S.front (by first | exact atOf HL (p := 0) rfl | exact atOf HL (p := 1) rfl | exact atOf HL (p := 2) rfl | exact atOf HL (p := 3) rfl | exact atOf HL (p := 4) rfl | exact atOf HL (p := 5) rfl | exact atOf HL (p := 6) rfl | exact atOf HL (p := 7) rfl)) HB.out ⟨by omega, by omega⟩).mono ?_; rintro e w ⟨u4, mr, mc, xs4, k4, rfl, hxl4, hk7, hk8, hrc4, T0⟩; obtain ⟨L, hM, T⟩ := st_name T0; clear T0; clear F S; (try rw [HL.out] at hM); clear HL; (try simp only [List.eraseIdx_cons_zero, List.eraseIdx_cons_succ] at hM); have HL := Lib.hid hM; clear hM; have S := T; clear T; have F := factsAll HL S; (try simp only [factsOf, cellsFrom, and_true, true_and, Nat.reduceAdd] at F)); clear hrc4; obtain ⟨A', cap', rfl, hcap', hmax'⟩ := S.sliceOf (atOf HL (p := 0) rfl)) | (refine wpList_lit3 rfl S _ _ rfl 55 Try.underlying31 infoMx _ _ _ rfl ?_; intro g' w L hM T; clear F S; (try rw [HL.out] at hM); clear HL; (try simp [Act.put, Act.eval, Value.cells, splice] at hM); have HL := Lib.hid hM; clear hM; have S := T; clear T; have F := factsAll HL S; (try simp only [factsOf, cellsFrom, and_true, true_and, Nat.reduceAdd] at F)) | (refine wpList_store_box rfl S _ _ _ rfl 4 _ _ _ _ (atOf HL rfl) rfl _ rfl (by kernel_rfl) rfl rfl ?_; intro w L hM T; clear F S; (try rw [HL.out] at hM); clear HL; (try simp [Act.put, Act.eval, Value.cells, splice] at hM); have HL := Lib.hid hM; clear hM; have S := T; clear T; have F := factsAll HL S; (try simp only [factsOf, cellsFrom, and_true, true_and, Nat.reduceAdd] at F)) | (refine wpList_store_box rfl S _ _ _ rfl 5 _ _ _ _ (atOf HL rfl) rfl _ rfl (by kernel_rfl) rfl rfl ?_; intro w L hM T; clear F S; (try rw [HL.out] at hM); clear HL; (try simp [Act.put, Act.eval, Value.cells, splice] at hM); have HL := Lib.hid hM; clear hM; have S := T; clear T; have F := factsAll HL S; (try simp only [factsOf, cellsFrom, and_true, true_and, Nat.reduceAdd] at F)) | (refine wpList_store_box rfl S _ _ _ rfl 6 _ _ _ _ (atOf HL rfl) rfl _ rfl (by kernel_rfl) rfl rfl ?_; intro w L hM T; clear F S; (try rw [HL.out] at hM); clear HL; (try simp [Act.put, Act.eval, Value.cells, splice] at hM); have HL := Lib.hid hM; clear hM; have S := T; clear T; have F := factsAll HL S; (try simp only [factsOf, cellsFrom, and_true, true_and, Nat.reduceAdd] at F)) | (refine wpList_store_box rfl S _ _ _ rfl 7 _ _ _ _ (atOf HL rfl) rfl _ rfl (by kernel_rfl) rfl rfl ?_; intro w L hM T; clear F S; (try rw [HL.out] at hM); clear HL; (try simp [Act.put, Act.eval, Value.cells, splice] at hM); have HL := Lib.hid hM; clear hM; have S := T; clear T; have F := factsAll HL S; (try simp only [factsOf, cellsFrom, and_true, true_and, Nat.reduceAdd] at F)))
  · ((try simp only [Exit.inBlock, Exit.then]); refine ret1 rfl (resCell S HL 6 rfl rfl (by kernel_rfl)) rfl ?_)
    rw [HL.out] at S
    exact drawsLy_two (S.sub (.cons_cons _ (.cons _ (.cons_cons _ (.cons_cons _ (.cons_cons _ (.cons _ (.cons _ (.refl _))))))))) (by omega) (by omega) (by omega) fun h => absurd h (by omega)
  · have hT := congrArg (List.drop 2) HL.out; simp only [List.drop_succ_cons, List.drop_zero] at hT; obtain ⟨L1, hL1⟩ : ∃ M, M = L.drop 2 := ⟨_, rfl⟩; rw [← hL1] at hT; have HL0 := Lib.hid hT; have S1 := S.sub (List.drop_sublist 2 L); rw [← hL1] at S1; have F0 := factsAll HL0 S1; (try simp only [factsOf, cellsFrom, and_true, true_and, Nat.reduceAdd] at F0); clear S1 hL1 hT; refine wp_region_tree (S := fun w' => St w0 w' L1) (.calm 0 (.calm 1 (.calm 2 (.act 3 (.act 4 (.act 5 (.calm 6 (.act 7 .fin .stop)) .stop) .stop) .stop)))) (by kernel_rfl) (by kernel_rfl) (by kernel_rfl) (by intro c a d v w h; cases d <;> exact h) ?_; replace S := S.drew
    repeat (first | (first | (refine tree_calm (v := ?_) ?_ rfl (by decide +kernel) rfl ?_ ?_; rotate_left; (focus (first | exact S | (refine S.sub (subL HL0 HL ?_); (repeat (first | exact List.Sublist.refl _ | apply List.Sublist.cons)); done))); (focus (intro w' hS'; (try dsimp only at hS'); go_simp; try rfl)); (try simp only [Act.put, List.setIfInBounds_toArray, List.set_cons_zero, List.set_cons_succ])) | (refine tree_any (v := ?_) ?_ rfl rfl ?_ ?_; rotate_left; (focus (first | exact S | (refine S.sub (subL HL0 HL ?_); (repeat (first | exact List.Sublist.refl _ | apply List.Sublist.cons)); done))); (focus (intro w'; go_simp; try rfl)); (try simp only [Act.put, List.setIfInBounds_toArray, List.set_cons_zero, List.set_cons_succ]))) | (refine tree_skip ?_ rfl rfl ?_; (focus (first | exact S | (refine S.sub (subL HL0 HL ?_); (repeat (first | exact List.Sublist.refl _ | apply List.Sublist.cons)); done))); (try simp only [Act.put, List.setIfInBounds_toArray, List.set_cons_zero, List.set_cons_succ])) | (refine tree_act rfl rfl ?_ tree_stop; intro K hK; (refine wp_lit3 S _ _ rfl 55 Try.underlying31 infoMx _ _ _ rfl ?_; intro g' w L hM T; clear F S; (try rw [HL.out] at hM); clear HL; (try simp [Act.put, Act.eval, Value.cells, splice] at hM); have HL := Lib.hid hM; clear hM; have S := T; clear T; have F := factsAll HL S; (try simp only [factsOf, cellsFrom, and_true, true_and, Nat.reduceAdd] at F)); (refine hK.out _ _ ?_ ?_; (focus (first | exact fun _ => S | (intro _; refine S.sub (subL HL0 HL ?_); (repeat (first | exact List.Sublist.refl _ | apply List.Sublist.cons)); done) | (refine sink_no ?_; kernel_rfl))); clear hK K; (try simp only [Act.put, List.setIfInBounds_toArray, List.set_cons_zero, List.set_cons_succ]))) | (refine tree_act rfl rfl ?_ tree_stop; intro K hK; (refine wp_append_box S _ _ _ rfl 55 _ 3 40 Try.underlying31 infoMx rfl (by omega) _ _ _ _ rfl (by first | exact atOf HL (p := 0) rfl | exact atOf HL (p := 1) rfl | exact atOf HL (p := 2) rfl | exact atOf HL (p := 3) rfl | exact atOf HL (p := 4) rfl | exact atOf HL (p := 5) rfl | exact atOf HL (p := 6) rfl | exact atOf HL (p := 7) rfl) (by omega) _ _ _ _ _ _ rfl (by first | exact atOf HL (p := 0) rfl | exact atOf HL (p := 1) rfl | exact atOf HL (p := 2) rfl | exact atOf HL (p := 3) rfl | exact atOf HL (p := 4) rfl | exact atOf HL (p := 5) rfl | exact atOf HL (p := 6) rfl | exact atOf HL (p := 7) rfl) rfl rfl rfl rfl ?_; intro u' w L hM T; clear F S; (try rw [HL.out] at hM); clear HL; (try simp [Act.put, Act.eval, Value.cells, splice] at hM); have HL := Lib.hid hM; clear hM; have S := T; clear T; have F := factsAll HL S; (try simp only [factsOf, cellsFrom, and_true, true_and, Nat.reduceAdd] at F); obtain ⟨A', cap', rfl, hcap', hmax'⟩ := S.sliceOf (atOf HL (p := 3) rfl)); (refine hK.out _ _ ?_ ?_; (focus (first | exact fun _ => S | (intro _; refine S.sub (subL HL0 HL ?_); (repeat (first | exact List.Sublist.refl _ | apply List.Sublist.cons)); done) | (refine sink_no ?_; kernel_rfl))); clear hK K; (try simp only [Act.put, List.setIfInBounds_toArray, List.set_cons_zero, List.set_cons_succ]))) | (refine tree_act rfl rfl ?_ tree_stop; intro K hK; (refine wp_store_box S _ _ _ rfl 6 _ _ _ _ (atOf HL rfl) rfl _ rfl (by kernel_rfl) rfl rfl ?_; intro w L hM T; clear F S; (try rw [HL.out] at hM); clear HL; (try simp [Act.put, Act.eval, Value.cells, splice] at hM); have HL := Lib.hid hM; clear hM; have S := T; clear T; have F := factsAll HL S; (try simp only [factsOf, cellsFrom, and_true, true_and, Nat.reduceAdd] at F)); (refine hK.out _ _ ?_ ?_; (focus (first | exact fun _ => S | (intro _; refine S.sub (subL HL0 HL ?_); (repeat (first | exact List.Sublist.refl _ | apply List.Sublist.cons)); done) | (refine sink_no ?_; kernel_rfl))); clear hK K; (try simp only [Act.put, List.setIfInBounds_toArray, List.set_cons_zero, List.set_cons_succ]))) | (refine tree_act rfl rfl ?_ tree_stop; intro K hK; go_wp2_with (first | ((go_at_call 61; refine (C_l20MatrixG _ _ _ _ _ 1 1 w0 _ ⟨⟨by omega, by omega⟩, by omega, by omega⟩ (by omega) (S.front (by first | exact atOf HL (p := 0) rfl | exact atOf HL (p := 1) rfl | exact atOf HL (p := 2) rfl | exact atOf HL (p := 3) rfl | exact atOf HL (p := 4) rfl | exact atOf HL (p := 5) rfl | exact atOf HL (p := 6) rfl | exact atOf HL (p := 7) rfl)) HB.out ⟨by omega, by omega⟩).mono ?_; rintro e w ⟨u4, mr, mc, xs4, k4, rfl, hxl4, hk7, hk8, hrc4, T0⟩; obtain ⟨L, hM, T⟩ := st_name T0; clear T0; clear F S; (try rw [HL.out] at hM); clear HL; (try simp only [List.eraseIdx_cons_zero, List.eraseIdx_cons_succ] at hM); have HL := Lib.hid hM; clear hM; have S := T; clear T; have F := factsAll HL S; (try simp only [factsOf, cellsFrom, and_true, true_and, Nat.reduceAdd] at F)); clear hrc4; obtain ⟨A', cap', rfl, hcap', hmax'⟩ := S.sliceOf (atOf HL (p := 0) rfl))); (refine hK.out _ _ ?_ ?_; (focus (first | exact fun _ => S | (intro _; refine S.sub (subL HL0 HL ?_); (repeat (first | exact List.Sublist.refl _ | apply List.Sublist.cons)); done) | (refine sink_no ?_; kernel_rfl))); clear hK K; (try simp only [Act.put, List.setIfInBounds_toArray, List.set_cons_zero, List.set_cons_succ]))))
    refine tree_fin ?_
    clear HL0 F0
    go_wp2_with (first | (refine wpList_store_box rfl S _ _ _ rfl 7 _ _ _ _ (atOf HL rfl) rfl _ rfl (by kernel_rfl) rfl rfl ?_; intro w L hM T; clear F S; (try rw [HL.out] at hM); clear HL; (try simp [Act.put, Act.eval, Value.cells, splice] at hM); have HL := Lib.hid hM; clear hM; have S := T; clear T; have F := factsAll HL S; (try simp only [factsOf, cellsFrom, and_true, true_and, Nat.reduceAdd] at F)))
    ((try simp only [Exit.inBlock, Exit.then]); refine ret1 rfl (resCell S HL 7 rfl rfl (by kernel_rfl)) rfl ?_)
    rw [HL.out] at S
    have T1 := S.front (p := 1) (show At _ 1 _ from rfl)
    simp only [List.eraseIdx_cons_succ, List.eraseIdx_cons_zero] at T1
    have T2 := T1.front (p := 5) (show At _ 5 _ from rfl)
    simp only [List.eraseIdx_cons_succ, List.eraseIdx_cons_zero] at T2
    have T3 := T2.front (p := 5) (show At _ 5 _ from rfl)
    simp only [List.eraseIdx_cons_succ, List.eraseIdx_cons_zero] at T3
    have T4 := T3.front (p := 5) (show At _ 5 _ from rfl)
    simp only [List.eraseIdx_cons_succ, List.eraseIdx_cons_zero] at T4
    have T5 := T4.front (p := 5) (show At _ 5 _ from rfl)
    simp only [List.eraseIdx_cons_succ, List.eraseIdx_cons_zero] at T5
    exact drawsLy_three (T5.sub (.cons_cons _ (.cons_cons _ (.cons_cons _ (.cons_cons _ (.cons_cons _ (.cons _ (.cons _ (.cons _ (.refl _)))))))))) (by omega) (by omega) (by omega) fun h => absurd h (by omega)
  · ((try simp only [Exit.inBlock, Exit.then]); refine ret1 rfl (resCell S HL 7 rfl rfl (by kernel_rfl)) rfl ?_)
    rw [HL.out] at S
    have T := S.asRow (p := 0) (size := 3) (n := 1) rfl rfl (by simp [maxLen])
    simp only [List.set_cons_zero, List.set_cons_succ] at T
    have T1 := T.front (p := 2) (show At _ 2 _ from rfl)
    simp only [List.eraseIdx_cons_succ, List.eraseIdx_cons_zero] at T1
    exact drawsLy_one (T1.sub (.cons_cons _ (.cons_cons _ (.cons_cons _ (.cons _ (.cons _ (.cons _ (.cons _ (.cons _ (.refl _)))))))))) (by omega) (by omega) (by omega) (by omega)
  · ((try simp only [Exit.inBlock, Exit.then]); refine ret1 rfl (resCell S HL 5 rfl rfl (by kernel_rfl)) rfl ?_)
    rw [HL.out] at S
    have T := (S.nilRow 55 3).front (p := 1) (show At _ 1 _ from rfl)
    simp only [List.eraseIdx_cons_succ, List.eraseIdx_cons_zero] at T
    exact ⟨_, _, [], k' + 1 + 1, rfl, by omega, by omega, ⟨by simp, by simp⟩, fun h => absurd h (by omega), T.sub (.cons_cons _ (.cons_cons _ (.cons _ (.cons _ (.cons _ (.cons _ (.cons _ (.refl _))))))))⟩
  · ((try simp only [Exit.inBlock, Exit.then]); refine ret1 rfl (resCell S HL 5 rfl rfl (by kernel_rfl)) rfl ?_)
    rw [HL.out] at S
    exact drawsLy_two (S.sub (.cons_cons _ (.cons_cons _ (.cons_cons _ (.cons_cons _ (.cons _ (.cons _ (.refl _)))))))) (by omega) (by omega) (by omega) fun h => absurd h (by omega)

/-! ### Contracts of what draws networks. -/
open Go Go.RowKit
set_option maxHeartbeats 8000000
set_option maxRecDepth 20000
section
variable {P : Program} {w0 w : World} {a : Act} {L : List Ent} {o : Oper} {ops : Array Oper} {rest : List Oper} {Q : Exit → Act → World → Prop}
theorem wpList_litL (hgd : o.guard = none) (S : St w0 w L) (t : TypeId) (x : Operand) (ho : o.op = .buildSlice t 1 #[(0, x)])
    (e : TypeId) (ht : P.underlying t = some (.slice e)) {z : Value} {bytes : Nat} (hi : (P.info? e).map (fun i => (i.zero, i.size, i.bytes)) = some (some z, 2, bytes))
    (c0 c1 : Value) (hx : a.eval x = .agg #[c0, c1])
    (h : ∀ g w' M, M = .box g e [c0, c1] :: L → St w0 w' M → wpList P ops Q rest (a.put o.dst (.slice (some ⟨g, 0, none⟩) 1 1)) w') : wpList P ops Q (o :: rest) a w :=
  wpList_litS hgd S t 1 _ ho e ht hi #[c0, c1] (fun C hC => by
    show Instr.fill _ C [(0, a.eval x)] = _
    rw [hx]; exact fill2 C hC _ _) (by omega) (by omega) h
end
/-- A layer is drawn: the reader, its row of matrices, the rows of the values, the rest. -/
def DrawsLyQ (R : List Ent) (g : Nat) (v : Value) (k : Int) (q : Int) (m : Int) (w0 : World) (e : Ending) (w' : World) : Prop :=
  ∃ (u : Value) (kd : Int) (ps : MsO) (k' : Int), e = .returned (.agg #[.int .i64 kd, u]) ∧ k ≤ k' ∧ k' ≤ k + 3000 ∧ (ps.length ≤ 4 ∧ ∀ p ∈ ps, p.2.xs.length ≤ 26) ∧ (m = 0 → kd = q ∧ (q = 1 → ∃ (A : Nat) (x : Value), (cellsM ps)[0]? = some (.int .i64 A) ∧ 0 < ps.length ∧ 1 ≤ A ∧ A ≤ 3)) ∧ St w0 w' (.box g 108 [v, .int .i64 k'] :: .row 55 3 u ps.length (cellsM ps) :: (rowsM ps ++ R))
theorem drawsLyQ {R : List Ent} {g : Nat} {v : Value} {k q m : Int} {w0 : World} {e : Ending} {w' : World} (h : DrawsLy R g v k q m w0 e w') : DrawsLyQ R g v k q m w0 e w' := by
  obtain ⟨u, kd, ps, k', rfl, h1, h2, hf, h3, T⟩ := h
  refine ⟨u, kd, ps, k', rfl, h1, h2, hf, fun hm => ⟨(h3 hm).1, fun hq => ?_⟩, T⟩
  obtain ⟨p, r, A, rfl, ha, hb, hc⟩ := (h3 hm).2 hq
  refine ⟨A, p.1, ?_, by simp, hb, hc⟩
  rw [← ha]
  rfl
theorem C_l20LayerQ (R : List Ent) (gr : Nat) (v : Value) (k q : Int) (A B : Nat) (w0 w1 : World) (hq : q = 1 ∨ q = 1 ∨ q = 2 ∨ q = 3) (hAB : (1 ≤ A ∧ A ≤ 5) ∧ 1 ≤ B ∧ B ≤ 5) (S0 : St w0 w1 (.box gr 108 [v, .int .i64 k] :: R)) (hB : Bytes w0 v) (hk : 0 ≤ k ∧ k ≤ 400000000) :
    Calls Try.prog 80 #[.pointer (some ⟨gr, 0, none⟩), .int .i64 q, .int .i64 A, .int .i64 B, .int .i64 0] w1 (DrawsLyQ R gr v k q 0 w0) := by
  have : q = 1 ∨ q = 2 ∨ q = 3 := by omega
  rcases this with rfl | rfl | rfl
  · exact (C_l20LayerOne R gr v k A B w0 w1 hAB S0 hB hk).mono fun e w h => drawsLyQ h
  · exact (C_l20LayerTwo R gr v k A B w0 w1 hAB S0 hB hk).mono fun e w h => drawsLyQ h
  · exact (C_l20LayerThree R gr v k A B w0 w1 hAB S0 hB hk).mono fun e w h => drawsLyQ h
theorem C_l20LayerX (R : List Ent) (gr : Nat) (v : Value) (k : Int) (A B : Nat) (w0 w1 : World) (hAB : (1 ≤ A ∧ A ≤ 5) ∧ 1 ≤ B ∧ B ≤ 5) (S0 : St w0 w1 (.box gr 108 [v, .int .i64 k] :: R)) (hB : Bytes w0 v) (hk : 0 ≤ k ∧ k ≤ 400000000) :
    Calls Try.prog 80 #[.pointer (some ⟨gr, 0, none⟩), .int .i64 1, .int .i64 A, .int .i64 B, .int .i64 1] w1 (DrawsLyQ R gr v k 1 1 w0) :=
  (C_l20LayerOdd R gr v k A B w0 w1 hAB S0 hB hk).mono fun e w h => drawsLyQ h
/-- A net is drawn: the reader, the row of its layers, the rows of the layers, the rest. -/
def LyFew (q : Value × Int × MsO) : Prop := q.2.2.length ≤ 4 ∧ ∀ p ∈ q.2.2, p.2.xs.length ≤ 26
def DrawsLs (R : List Ent) (g : Nat) (v : Value) (k : Int) (w0 : World) (e : Ending) (w' : World) : Prop :=
  ∃ (u : Value) (qs : LsO) (k' : Int), e = .returned u ∧ k ≤ k' ∧ k' ≤ k + 20000 ∧ qs.length ≤ 5 ∧ (∀ q ∈ qs, LyFew q) ∧ St w0 w' (.box g 108 [v, .int .i64 k'] :: .row 33 2 u qs.length (cellsL qs) :: (rowsL qs ++ R))
theorem ls_add (qs : LsO) (u : Value) (kd : Int) (ps : MsO) : rowsL (qs ++ [(u, kd, ps)]) = rowsL qs ++ (.row 55 3 u ps.length (cellsM ps) :: rowsM ps) := by
  rw [rowsL_add]
  show rowsL qs ++ (entsM u ps ++ []) = _
  rw [List.append_nil]
  rfl
theorem ls_perm (rd ms ot : Ent) (A B R : List Ent) : (rd :: ms :: ot :: (A ++ (B ++ R))).Perm (rd :: ot :: (B ++ (ms :: A) ++ R)) := by
  refine .cons _ ?_
  refine (List.Perm.swap _ _ _).trans (.cons _ ?_)
  rw [← List.cons_append, ← List.append_assoc]
  exact List.Perm.append_right _ List.perm_append_comm
theorem st_mid {w0 w : World} {rd ms li ot : Ent} {A X : List Ent} (T : St w0 w (rd :: ms :: (A ++ (li :: ot :: X)))) : St w0 w (rd :: ms :: ot :: (A ++ X)) :=
  (T.sub (.cons_cons _ (.cons_cons _ (List.Sublist.append_left (.cons _ (.refl _)) A)))).perm (.cons _ (.cons _ List.perm_middle))
theorem st_add {w0 w : World} {rd : Ent} {R : List Ent} {u u2 : Value} {qs : LsO} {kd : Int} {ps : MsO} {n : Nat} {cs : List Value} (hn : qs.length = n) (hcs : cs = cellsL qs ++ [.int .i64 kd, u2])
    (T : St w0 w (rd :: .row 55 3 u2 ps.length (cellsM ps) :: .row 33 2 u (n + 1) cs :: (rowsM ps ++ (rowsL qs ++ R)))) :
    St w0 w (rd :: .row 33 2 u (qs ++ [(u2, kd, ps)]).length (cellsL (qs ++ [(u2, kd, ps)])) :: (rowsL (qs ++ [(u2, kd, ps)]) ++ R)) := by
  subst hcs hn
  have T2 := T.perm (ls_perm _ _ _ _ _ _)
  rw [ls_add, cellsL_add, List.length_append]
  exact T2
def five : LsO := [(.slice none 0 0, 0, []), (.slice none 0 0, 0, []), (.slice none 0 0, 0, []), (.slice none 0 0, 0, []), (.slice none 0 0, 0, [])]
theorem made5 : (madeCells #[Value.int .i64 0, Value.slice none 0 0] 10).toList = cellsL five := by
  simp [madeCells, cellsL, cellL, five]
  rfl
theorem five_few : ∀ q ∈ five, LyFew q := by
  intro q hq
  simp only [five, List.mem_cons, List.not_mem_nil, or_false, or_self] at hq
  subst hq
  exact ⟨by simp, by simp⟩
theorem few_add {qs : LsO} {q : Value × Int × MsO} (h : ∀ q ∈ qs, LyFew q) (hq : LyFew q) : ∀ x ∈ qs ++ [q], LyFew x := by
  intro x hx
  rcases List.mem_append.1 hx with h1 | h1
  · exact h x h1
  · rw [List.mem_singleton.1 h1]; exact hq
theorem C_l20Net (R : List Ent) (gr : Nat) (v : Value) (k n : Int) (A0 B : Nat) (w0 w1 : World) (hAB : (1 ≤ A0 ∧ A0 ≤ 3) ∧ 1 ≤ B ∧ B ≤ 3) (hn : 0 ≤ n) (S0 : St w0 w1 (.box gr 108 [v, .int .i64 k] :: R)) (hB : Bytes w0 v) (hk : 0 ≤ k ∧ k ≤ 300000000) :
    Calls Try.prog 42 #[.pointer (some ⟨gr, 0, none⟩), .int .i64 A0, .int .i64 B, .int .i64 n] w1 (DrawsLs R gr v k w0) := by
  have HB := Lib.hid hB
  obtain ⟨k1, k2⟩ := hk
  obtain ⟨⟨A1, A2⟩, B1, B2⟩ := hAB
  clear hB
  obtain ⟨L, HL, S⟩ := st_name S0
  clear S0
  replace HL := Lib.hid HL
  have F := factsAll HL S
  simp only [factsOf, cellsFrom, and_true, true_and, Nat.reduceAdd] at F
  go_enter Try.func42, Try.ntmps42
  go_upto_region 2 with (first | (refine wpList_empty rfl S _ rfl 33 Try.underlying25 infoLy ?_; intro g w L hM T; clear F S; (try rw [HL.out] at hM); clear HL; (try simp [Act.put, Act.eval, Value.cells, splice] at hM); have HL := Lib.hid hM; clear hM; have S := T; clear T; have F := factsAll HL S; (try simp only [factsOf, cellsFrom, and_true, true_and, Nat.reduceAdd] at F)))
  go_wp2_with (first | ((go_at_call 35; refine (C_pick _ _ _ _ _ w0 _ (S.front (by first | exact atOf HL (p := 0) rfl | exact atOf HL (p := 1) rfl | exact atOf HL (p := 2) rfl | exact atOf HL (p := 3) rfl | exact atOf HL (p := 4) rfl | exact atOf HL (p := 5) rfl | exact atOf HL (p := 6) rfl | exact atOf HL (p := 7) rfl)) HB.out ⟨by omega, by omega⟩).mono ?_; rintro e w ⟨y, rfl, hy0, T0⟩; obtain ⟨L, hM, T⟩ := st_name T0; clear T0; clear F S; (try rw [HL.out] at hM); clear HL; (try simp only [List.eraseIdx_cons_zero, List.eraseIdx_cons_succ] at hM); have HL := Lib.hid hM; clear hM; have S := T; clear T; have F := factsAll HL S; (try simp only [factsOf, cellsFrom, and_true, true_and, Nat.reduceAdd] at F)); have hy := hy0 (by omega); clear hy0))
  obtain ⟨j0, rfl⟩ : ∃ j : Nat, y = (j : Int) := ⟨y.toNat, by omega⟩
  have hj0 : j0 ≤ 3 := by omega
  clear hy
  rw [HL.out] at S
  have S1 := S.sub (.cons_cons _ (.cons_cons _ (.refl _)))
  clear S HL F
  have S := S1
  clear S1
  obtain ⟨L, hM, T⟩ := st_name S; clear S; have S := T; clear T; have HL := Lib.hid hM; clear hM; have F := factsAll HL S; (try simp only [factsOf, cellsFrom, and_true, true_and, Nat.reduceAdd] at F)
  go_loopw [10, 9, 1] (fun i o r wr => ∃ (j A : Nat) (u : Value) (qs : LsO) (k' : Int) (L : List Ent), i = .int .i64 j ∧ j + qs.length ≤ 3 ∧ o = u ∧ r = .int .i64 A ∧ 1 ≤ A ∧ A ≤ 3 ∧ k ≤ k' ∧ k' ≤ k + 1 + 4000 * qs.length ∧ Hid (∀ q ∈ qs, LyFew q) ∧ Hid (L = .box gr 108 [v, .int .i64 k'] :: .row 33 2 u qs.length (cellsL qs) :: (rowsL qs ++ R)) ∧ St w0 wr L) (fun i _ _ _ => (intOf i).toNat)
  case atStart => exact ⟨j0, A0, _, [], k + 1, L, rfl, by simpa using hj0, rfl, rfl, A1, A2, by omega, by simp, Lib.hid (by simp), HL, S⟩
  case round =>
    clear F HL S
    obtain ⟨j, A, u, qs, k', L, rfl, hq3, rfl, rfl, hA1, hA2, hk3, hk4, HFW, HL, S⟩ := hrel
    have F := factsAll HL S
    simp only [factsOf, cellsFrom, and_true, true_and, Nat.reduceAdd] at F
    obtain ⟨ln, hln⟩ : ∃ ln, qs.length = ln := ⟨_, rfl⟩
    rw [hln] at hq3 hk4 HL
    have HLN := Lib.hid hln
    clear hln
    by_cases hj : 0 < j
    · go_upto_region 6 with (first | (refine wpList_lit rfl S _ _ _ rfl 3 Try.underlying53 infoInt (by simp [Act.eval]) (by simp [Act.eval, Value.oneCell']) rfl rfl rfl ?_; intro g w L hM T; clear F S; (try rw [HL.out] at hM); clear HL; (try simp [Act.put, Act.eval, Value.cells, splice] at hM); have HL := Lib.hid hM; clear hM; have S := T; clear T; have F := factsAll HL S; (try simp only [factsOf, cellsFrom, and_true, true_and, Nat.reduceAdd] at F)) | ((go_at_call 35; refine (C_pick _ _ _ _ _ w0 _ (S.front (by first | exact atOf HL (p := 0) rfl | exact atOf HL (p := 1) rfl | exact atOf HL (p := 2) rfl | exact atOf HL (p := 3) rfl | exact atOf HL (p := 4) rfl | exact atOf HL (p := 5) rfl | exact atOf HL (p := 6) rfl | exact atOf HL (p := 7) rfl)) HB.out ⟨by omega, by omega⟩).mono ?_; rintro e w ⟨y, rfl, hy0, T0⟩; obtain ⟨L, hM, T⟩ := st_name T0; clear T0; clear F S; (try rw [HL.out] at hM); clear HL; (try simp only [List.eraseIdx_cons_zero, List.eraseIdx_cons_succ] at hM); have HL := Lib.hid hM; clear hM; have S := T; clear T; have F := factsAll HL S; (try simp only [factsOf, cellsFrom, and_true, true_and, Nat.reduceAdd] at F)); have hy := hy0 (by omega); clear hy0) | (first | (refine wpList_load_lit rfl S _ _ rfl Try.underlying3 1 _ _ _ _ (atOf HL rfl) rfl (by simp) (by simp; omega) ?_; intro q hq; have hq := id hq; simp only [List.mem_cons, Value.int.injEq, true_and, List.not_mem_nil, or_false] at hq) | (refine wpList_load_lit rfl S _ _ rfl Try.underlying3 2 _ _ _ _ (atOf HL rfl) rfl (by simp) (by simp; omega) ?_; intro q hq; have hq := id hq; simp only [List.mem_cons, Value.int.injEq, true_and, List.not_mem_nil, or_false] at hq) | (refine wpList_load_lit rfl S _ _ rfl Try.underlying3 3 _ _ _ _ (atOf HL rfl) rfl (by simp) (by simp; omega) ?_; intro q hq; have hq := id hq; simp only [List.mem_cons, Value.int.injEq, true_and, List.not_mem_nil, or_false] at hq)))
      go_at_call 80
      refine (C_l20LayerQ _ _ _ _ q A B w0 _ hq ⟨⟨by omega, by omega⟩, by omega, by omega⟩ (S.front (atOf HL (p := 0) rfl)) HB.out ⟨by omega, by omega⟩).mono ?_
      rintro e w ⟨u2, kd, ps, k2, rfl, hk5, hk6, hfw, hm, T0⟩; have HFW2 := Lib.hid (few_add HFW.out (show LyFew (u2, kd, ps) from hfw)); clear hfw
      obtain ⟨rfl, hone⟩ := hm rfl
      rw [HL.out] at T0
      simp only [List.eraseIdx_cons_zero] at T0
      have T1 := st_mid T0
      clear T0 S F HL hm
      have S := T1
      clear T1
      obtain ⟨L, hM, T⟩ := st_name S; clear S; have S := T; clear T; have HL := Lib.hid hM; clear hM; have F := factsAll HL S; (try simp only [factsOf, cellsFrom, and_true, true_and, Nat.reduceAdd] at F)
      obtain ⟨A', cap', rfl, hcap', hmax'⟩ := S.sliceOf (atOf HL (p := 1) rfl)
      go_upto_region 6 with (first | (refine wpList_alloc rfl S 33 _ rfl zLy ?_; intro gl w L hM T; clear F S; (try rw [HL.out] at hM); clear HL; (try simp [Act.put, Act.eval, Value.cells, splice] at hM); have HL := Lib.hid hM; clear hM; have S := T; clear T; have F := factsAll HL S; (try simp only [factsOf, cellsFrom, and_true, true_and, Nat.reduceAdd] at F)) | (refine wpList_store_box rfl S _ _ _ rfl 0 _ _ _ _ (atOf HL rfl) rfl _ rfl (by kernel_rfl) rfl rfl ?_; intro w L hM T; clear F S; (try rw [HL.out] at hM); clear HL; (try simp [Act.put, Act.eval, Value.cells, splice] at hM); have HL := Lib.hid hM; clear hM; have S := T; clear T; have F := factsAll HL S; (try simp only [factsOf, cellsFrom, and_true, true_and, Nat.reduceAdd] at F)))
      by_cases h1 : kd = 1
      · subst h1
        obtain ⟨A', x, hc, hp, ha1, ha2⟩ := hone rfl
        obtain ⟨gm, cm, em, hcm, hmm⟩ := S.rowAt (p := 2) (atOf HL rfl) hp
        simp only [Value.slice.injEq, true_and] at em
        obtain ⟨rfl, rfl⟩ := em
        have c0 := (S.rowCell (p := 2) (atOf HL rfl) 0 (by omega)).trans hc
        clear hc hone hq
        unfold maxLen at hmm
        go_wp2_with (first | (refine wpList_litL rfl S _ _ rfl 33 Try.underlying25 infoLy _ _ rfl ?_; intro g w L hM T; clear F S; (try rw [HL.out] at hM); clear HL; (try simp [Act.put, Act.eval, Value.cells, splice] at hM); have HL := Lib.hid hM; clear hM; have S := T; clear T; have F := factsAll HL S; (try simp only [factsOf, cellsFrom, and_true, true_and, Nat.reduceAdd] at F)) | (refine wpList_append_box rfl S _ _ _ rfl 33 _ 2 32 Try.underlying25 infoLy rfl (by omega) _ _ _ _ rfl (by first | exact atOf HL (p := 0) rfl | exact atOf HL (p := 1) rfl | exact atOf HL (p := 2) rfl | exact atOf HL (p := 3) rfl | exact atOf HL (p := 4) rfl | exact atOf HL (p := 5) rfl | exact atOf HL (p := 6) rfl | exact atOf HL (p := 7) rfl) (by omega) _ _ _ _ _ _ rfl (by first | exact atOf HL (p := 0) rfl | exact atOf HL (p := 1) rfl | exact atOf HL (p := 2) rfl | exact atOf HL (p := 3) rfl | exact atOf HL (p := 4) rfl | exact atOf HL (p := 5) rfl | exact atOf HL (p := 6) rfl | exact atOf HL (p := 7) rfl) rfl rfl rfl rfl ?_; intro u w L hM T; clear F S; (try rw [HL.out] at hM); clear HL; (try simp [Act.put, Act.eval, Value.cells, splice] at hM); have HL := Lib.hid hM; clear hM; have S := T; clear T; have F := factsAll HL S; (try simp only [factsOf, cellsFrom, and_true, true_and, Nat.reduceAdd] at F)))
        go_roundw
        case rel =>
          rw [HL.out] at S
          exact ⟨j - 1, A', _, _, k2, _, by congr 1; omega, by rw [List.length_append, HLN.out]; simp; omega, rfl, rfl, by omega, by omega, by omega, by rw [List.length_append, HLN.out]; simp; omega, HFW2, Lib.hid rfl, st_add HLN.out rfl (S.sub (.cons _ (.cons _ (.refl _))))⟩
        case measure => simp [intOf]; omega
      · clear hone
        have HO : Hid (kd = 2 ∨ kd = 3) := Lib.hid (by omega)
        clear hq
        go_wp2_with (first | (refine wpList_litL rfl S _ _ rfl 33 Try.underlying25 infoLy _ _ rfl ?_; intro g w L hM T; clear F S; (try rw [HL.out] at hM); clear HL; (try simp [Act.put, Act.eval, Value.cells, splice] at hM); have HL := Lib.hid hM; clear hM; have S := T; clear T; have F := factsAll HL S; (try simp only [factsOf, cellsFrom, and_true, true_and, Nat.reduceAdd] at F)) | (refine wpList_append_box rfl S _ _ _ rfl 33 _ 2 32 Try.underlying25 infoLy rfl (by omega) _ _ _ _ rfl (by first | exact atOf HL (p := 0) rfl | exact atOf HL (p := 1) rfl | exact atOf HL (p := 2) rfl | exact atOf HL (p := 3) rfl | exact atOf HL (p := 4) rfl | exact atOf HL (p := 5) rfl | exact atOf HL (p := 6) rfl | exact atOf HL (p := 7) rfl) (by omega) _ _ _ _ _ _ rfl (by first | exact atOf HL (p := 0) rfl | exact atOf HL (p := 1) rfl | exact atOf HL (p := 2) rfl | exact atOf HL (p := 3) rfl | exact atOf HL (p := 4) rfl | exact atOf HL (p := 5) rfl | exact atOf HL (p := 6) rfl | exact atOf HL (p := 7) rfl) rfl rfl rfl rfl ?_; intro u w L hM T; clear F S; (try rw [HL.out] at hM); clear HL; (try simp [Act.put, Act.eval, Value.cells, splice] at hM); have HL := Lib.hid hM; clear hM; have S := T; clear T; have F := factsAll HL S; (try simp only [factsOf, cellsFrom, and_true, true_and, Nat.reduceAdd] at F)))
        go_roundw
        case rel =>
          rw [HL.out] at S
          exact ⟨j - 1, A, _, _, k2, _, by congr 1; omega, by rw [List.length_append, HLN.out]; simp; omega, rfl, rfl, by omega, by omega, by omega, by rw [List.length_append, HLN.out]; simp; omega, HFW2, Lib.hid rfl, st_add HLN.out rfl (S.sub (.cons _ (.cons _ (.refl _))))⟩
        case measure => simp [intOf]; omega
    · obtain rfl : j = 0 := by omega
      go_wp2_with (first | (go_at_call 72; refine (C_odd _ _ _ _ _ w0 _ (S.front (by first | exact atOf HL (p := 0) rfl | exact atOf HL (p := 1) rfl | exact atOf HL (p := 2) rfl | exact atOf HL (p := 3) rfl | exact atOf HL (p := 4) rfl | exact atOf HL (p := 5) rfl | exact atOf HL (p := 6) rfl | exact atOf HL (p := 7) rfl)) HB.out ⟨by omega, by omega⟩).mono ?_; rintro e w ⟨y, k', rfl, hk1, hk2, T0⟩; obtain ⟨L, hM, T⟩ := st_name T0; clear T0; clear F S; (try rw [HL.out] at hM); clear HL; (try simp only [List.eraseIdx_cons_zero, List.eraseIdx_cons_succ] at hM); have HL := Lib.hid hM; clear hM; have S := T; clear T; have F := factsAll HL S; (try simp only [factsOf, cellsFrom, and_true, true_and, Nat.reduceAdd] at F)) | ((go_at_call 35; refine (C_pick _ _ _ _ _ w0 _ (S.front (by first | exact atOf HL (p := 0) rfl | exact atOf HL (p := 1) rfl | exact atOf HL (p := 2) rfl | exact atOf HL (p := 3) rfl | exact atOf HL (p := 4) rfl | exact atOf HL (p := 5) rfl | exact atOf HL (p := 6) rfl | exact atOf HL (p := 7) rfl)) HB.out ⟨by omega, by omega⟩).mono ?_; rintro e w ⟨y, rfl, hy0, T0⟩; obtain ⟨L, hM, T⟩ := st_name T0; clear T0; clear F S; (try rw [HL.out] at hM); clear HL; (try simp only [List.eraseIdx_cons_zero, List.eraseIdx_cons_succ] at hM); have HL := Lib.hid hM; clear hM; have S := T; clear T; have F := factsAll HL S; (try simp only [factsOf, cellsFrom, and_true, true_and, Nat.reduceAdd] at F)); have hy := hy0 (by omega); clear hy0) | (at_make; refine wpList_make rfl S _ _ _ rfl 33 _ 2 32 Try.underlying25 infoLy _ 5 rfl rfl rfl (by omega) (by simp only [maxLen]; omega) ?_; intro g w L hM T; clear F S; (try rw [HL.out] at hM); clear HL; (try simp [Act.put, Act.eval, Value.cells, splice] at hM); have HL := Lib.hid hM; clear hM; have S := T; clear T; have F := factsAll HL S; (try simp only [factsOf, cellsFrom, and_true, true_and, Nat.reduceAdd] at F)))
      · rw [show (A : Int) + 1 = ((A + 1 : Nat) : Int) by omega]
        go_at_call 80
        refine (C_l20LayerQ _ _ _ _ 1 (A + 1) B w0 _ (.inl rfl) ⟨⟨by omega, by omega⟩, by omega, by omega⟩ (S.front (atOf HL (p := 0) rfl)) HB.out ⟨by omega, by omega⟩).mono ?_
        rintro e w ⟨u2, kd, ps, k2, rfl, hk5, hk6, hfw, hm, T0⟩; have HFW2 := Lib.hid (few_add HFW.out (show LyFew (u2, kd, ps) from hfw)); clear hfw
        clear hm
        rw [HL.out] at T0
        simp only [List.eraseIdx_cons_zero] at T0
        have T1 := T0.perm (.cons _ (.cons _ List.perm_middle))
        clear T0 S F HL
        have S := T1
        clear T1
        obtain ⟨L, hM, T⟩ := st_name S; clear S; have S := T; clear T; have HL := Lib.hid hM; clear hM; have F := factsAll HL S; (try simp only [factsOf, cellsFrom, and_true, true_and, Nat.reduceAdd] at F)
        obtain ⟨A', cap', rfl, hcap', hmax'⟩ := S.sliceOf (atOf HL (p := 1) rfl)
        go_wp2_with (first | (refine wpList_litL rfl S _ _ rfl 33 Try.underlying25 infoLy _ _ rfl ?_; intro g w L hM T; clear F S; (try rw [HL.out] at hM); clear HL; (try simp [Act.put, Act.eval, Value.cells, splice] at hM); have HL := Lib.hid hM; clear hM; have S := T; clear T; have F := factsAll HL S; (try simp only [factsOf, cellsFrom, and_true, true_and, Nat.reduceAdd] at F)) | (refine wpList_append_box rfl S _ _ _ rfl 33 _ 2 32 Try.underlying25 infoLy rfl (by omega) _ _ _ _ rfl (by first | exact atOf HL (p := 0) rfl | exact atOf HL (p := 1) rfl | exact atOf HL (p := 2) rfl | exact atOf HL (p := 3) rfl | exact atOf HL (p := 4) rfl | exact atOf HL (p := 5) rfl | exact atOf HL (p := 6) rfl | exact atOf HL (p := 7) rfl) (by omega) _ _ _ _ _ _ rfl (by first | exact atOf HL (p := 0) rfl | exact atOf HL (p := 1) rfl | exact atOf HL (p := 2) rfl | exact atOf HL (p := 3) rfl | exact atOf HL (p := 4) rfl | exact atOf HL (p := 5) rfl | exact atOf HL (p := 6) rfl | exact atOf HL (p := 7) rfl) rfl rfl rfl rfl ?_; intro u w L hM T; clear F S; (try rw [HL.out] at hM); clear HL; (try simp [Act.put, Act.eval, Value.cells, splice] at hM); have HL := Lib.hid hM; clear hM; have S := T; clear T; have F := factsAll HL S; (try simp only [factsOf, cellsFrom, and_true, true_and, Nat.reduceAdd] at F)))
        go_ret
        rw [HL.out] at S
        exact ⟨_, _, k2, rfl, by omega, by omega, by rw [List.length_append, HLN.out]; simp; omega, HFW2.out, st_add HLN.out rfl (S.sub (.cons _ (.refl _)))⟩
      · go_at_call 80
        refine (C_l20LayerX _ _ _ _ A B w0 _ ⟨⟨by omega, by omega⟩, by omega, by omega⟩ (S.front (atOf HL (p := 0) rfl)) HB.out ⟨by omega, by omega⟩).mono ?_
        rintro e w ⟨u2, kd, ps, k2, rfl, hk5, hk6, hfw, hm, T0⟩; have HFW2 := Lib.hid (few_add HFW.out (show LyFew (u2, kd, ps) from hfw)); clear hfw
        clear hm
        rw [HL.out] at T0
        simp only [List.eraseIdx_cons_zero] at T0
        have T1 := T0.perm (.cons _ (.cons _ List.perm_middle))
        clear T0 S F HL
        have S := T1
        clear T1
        obtain ⟨L, hM, T⟩ := st_name S; clear S; have S := T; clear T; have HL := Lib.hid hM; clear hM; have F := factsAll HL S; (try simp only [factsOf, cellsFrom, and_true, true_and, Nat.reduceAdd] at F)
        obtain ⟨A', cap', rfl, hcap', hmax'⟩ := S.sliceOf (atOf HL (p := 1) rfl)
        go_wp2_with (first | (refine wpList_litL rfl S _ _ rfl 33 Try.underlying25 infoLy _ _ rfl ?_; intro g w L hM T; clear F S; (try rw [HL.out] at hM); clear HL; (try simp [Act.put, Act.eval, Value.cells, splice] at hM); have HL := Lib.hid hM; clear hM; have S := T; clear T; have F := factsAll HL S; (try simp only [factsOf, cellsFrom, and_true, true_and, Nat.reduceAdd] at F)) | (refine wpList_append_box rfl S _ _ _ rfl 33 _ 2 32 Try.underlying25 infoLy rfl (by omega) _ _ _ _ rfl (by first | exact atOf HL (p := 0) rfl | exact atOf HL (p := 1) rfl | exact atOf HL (p := 2) rfl | exact atOf HL (p := 3) rfl | exact atOf HL (p := 4) rfl | exact atOf HL (p := 5) rfl | exact atOf HL (p := 6) rfl | exact atOf HL (p := 7) rfl) (by omega) _ _ _ _ _ _ rfl (by first | exact atOf HL (p := 0) rfl | exact atOf HL (p := 1) rfl | exact atOf HL (p := 2) rfl | exact atOf HL (p := 3) rfl | exact atOf HL (p := 4) rfl | exact atOf HL (p := 5) rfl | exact atOf HL (p := 6) rfl | exact atOf HL (p := 7) rfl) rfl rfl rfl rfl ?_; intro u w L hM T; clear F S; (try rw [HL.out] at hM); clear HL; (try simp [Act.put, Act.eval, Value.cells, splice] at hM); have HL := Lib.hid hM; clear hM; have S := T; clear T; have F := factsAll HL S; (try simp only [factsOf, cellsFrom, and_true, true_and, Nat.reduceAdd] at F)))
        go_ret
        rw [HL.out] at S
        exact ⟨_, _, k2, rfl, by omega, by omega, by rw [List.length_append, HLN.out]; simp; omega, HFW2.out, st_add HLN.out rfl (S.sub (.cons _ (.refl _)))⟩
      · go_ret
        rw [HL.out] at S
        have T := ((((S.nilRow 55 3).nilRow 55 3).nilRow 55 3).nilRow 55 3).nilRow 55 3
        have T1 := T.front (p := 6) (show At _ 6 _ from rfl)
        simp only [List.eraseIdx_cons_succ, List.eraseIdx_cons_zero] at T1
        have T2 := T1.front (p := 6) (show At _ 6 _ from rfl)
        simp only [List.eraseIdx_cons_succ, List.eraseIdx_cons_zero] at T2
        have T3 := T2.front (p := 1) (show At _ 1 _ from rfl)
        simp only [List.eraseIdx_cons_succ, List.eraseIdx_cons_zero] at T3
        rw [made5] at T3
        exact ⟨_, five, k' + 1, rfl, by omega, by omega, by decide, five_few,
          T3.sub (.cons_cons _ (.cons_cons _ (.cons_cons _ (.cons_cons _ (.cons_cons _ (.cons_cons _ (.cons_cons _ (.cons _ (List.sublist_append_right _ _)))))))))⟩
      · go_ret
        rw [HL.out, ← HLN.out] at S
        exact ⟨_, qs, k', rfl, by omega, by omega, by rw [HLN.out]; omega, HFW.out, S⟩
end Go.Proofs.Ytdfpceobfficfaa
