/-
  Contracts: whether matrices and shared matrices are the same (the laws').
-/
import Derived.Test.YtjihfeffonadmaaMatQ
import Derived.Test.YtjihfeffonadmaaSame
namespace Go.Proofs.Ytjihfeffonadmaa
set_option linter.unusedSimpArgs false
set_option linter.unusedVariables false
set_option linter.unusedSectionVars false
open Go Go.RowKit
set_option maxHeartbeats 8000000
set_option maxRecDepth 20000
theorem C_sameMatrix (r c : Int) (xs : List Int) (u v : Value) (w0 : World) (hu : Ints w0 u xs) (hv : Ints w0 v xs) :
    Calls Try.prog 25 #[.agg #[.int .i64 r, .int .i64 c, u], .agg #[.int .i64 r, .int .i64 c, v]] w0 fun e w' => e = .returned (.bool true) ∧ Below w0.heap.size w0 w' := by
  obtain ⟨L, HL, S⟩ := st_start w0; have F : True := trivial
  go_enter Try.func25, Try.ntmps25
  go_upto_region 1 with (first | (refine wpList_box rfl S _ _ rfl ?_; intro g w L hM T; clear F S; (try rw [HL.out] at hM); clear HL; (try simp [Act.put, Act.eval, Value.cells, splice] at hM); have HL := Lib.hid hM; clear hM; have S := T; clear T; have F := factsAll HL S; (try simp only [factsOf, cellsFrom, and_true, true_and, Nat.reduceAdd] at F)))
  go_wp2_with (first | (go_at_call 29; refine (C_sameInts _ _ xs _ (hu.at_ S) (hv.at_ S)).mono ?_; rintro e w ⟨rfl, hb⟩; replace S := S.grow hb; clear hb))
  go_ret
  exact ⟨rfl, S.below⟩
theorem C_sameShares (r c : Int) (xs : List Int) (r' c' : Int) (ys : List Int) (u v u' v' : Value) (w0 : World) (hu : Ints w0 u xs) (hv : Ints w0 v ys) (hu' : Ints w0 u' xs) (hv' : Ints w0 v' ys) :
    Calls Try.prog 22 #[.agg #[.int .i64 r, .int .i64 c, u, .int .i64 r', .int .i64 c', v], .agg #[.int .i64 r, .int .i64 c, u', .int .i64 r', .int .i64 c', v']] w0 fun e w' => e = .returned (.bool true) ∧ Below w0.heap.size w0 w' := by
  obtain ⟨L, HL, S⟩ := st_start w0; have F : True := trivial
  go_enter Try.func22, Try.ntmps22
  go_upto_region 1 with (first | (refine wpList_box rfl S _ _ rfl ?_; intro g w L hM T; clear F S; (try rw [HL.out] at hM); clear HL; (try simp [Act.put, Act.eval, Value.cells, splice] at hM); have HL := Lib.hid hM; clear hM; have S := T; clear T; have F := factsAll HL S; (try simp only [factsOf, cellsFrom, and_true, true_and, Nat.reduceAdd] at F)))
  go_wp2_with (first | (go_at_call 25; refine (C_sameMatrix _ _ _ _ _ _ (by first | exact hu.at_ S | exact hv.at_ S) (by first | exact hu'.at_ S | exact hv'.at_ S)).mono ?_; rintro e w ⟨rfl, hb⟩; replace S := S.grow hb; clear hb))
  go_ret
  exact ⟨rfl, S.below⟩
/-! ### Turned shares are shares of what is turned -/
theorem turn_all {R C : Nat} {xs : List Int} (h1 : 1 ≤ R) (h : xs.all rv = true) (hl : xs.length = R * C) : (tab (C * R) (turnV R C xs)).all rv = true := by
  rw [List.all_eq_true]
  intro x hx
  simp only [tab, List.mem_map, List.mem_range] at hx
  obtain ⟨q, hq, rfl⟩ := hx
  unfold turnV
  have hr : q % R < R := Nat.mod_lt _ (by omega)
  have hc : q / R < C := Nat.div_lt_of_lt_mul (by rw [Nat.mul_comm]; exact hq)
  have := cell_lt hr hc
  rw [List.getD_eq_getElem?_getD, List.getElem?_eq_getElem (by rw [hl]; exact this)]
  exact List.all_eq_true.1 h _ (List.getElem_mem _)
theorem turn_turn {R C : Nat} {xs : List Int} (h1 : 1 ≤ R) (h3 : 1 ≤ C) (hl : xs.length = R * C) : tab (R * C) (turnV C R (tab (C * R) (turnV R C xs))) = xs := by
  apply List.ext_getElem?
  intro q
  by_cases hq : q < R * C
  · have hc : q % C < C := Nat.mod_lt _ (by omega)
    have hr : q / C < R := Nat.div_lt_of_lt_mul (by rw [Nat.mul_comm]; exact hq)
    have h5 := cell_lt hc hr
    have e1 : (tab (R * C) (turnV C R (tab (C * R) (turnV R C xs))))[q]? = some (turnV C R (tab (C * R) (turnV R C xs)) q) := by simp [tab, hq]
    rw [e1, List.getElem?_eq_getElem (by rw [hl]; exact hq)]
    congr 1
    unfold turnV
    rw [tab_getD _ _ _ h5]
    have e2 : (q % C * R + q / C) % R = q / C := by rw [Nat.mul_comm, Nat.mul_add_mod, Nat.mod_eq_of_lt hr]
    have e3 : (q % C * R + q / C) / R = q % C := by rw [Nat.mul_comm, Nat.mul_add_div (by omega), Nat.div_eq_of_lt hr, Nat.add_zero]
    rw [e2, e3]
    have e4 : q / C * C + q % C = q := by rw [Nat.mul_comm]; exact Nat.div_add_mod q C
    rw [e4, List.getD_eq_getElem?_getD, List.getElem?_eq_getElem (by rw [hl]; exact hq)]
    rfl
  · have e1 : (tab (R * C) (turnV C R (tab (C * R) (turnV R C xs))))[q]? = none := by simp [tab]; omega
    rw [e1, List.getElem?_eq_none (by omega)]
end Go.Proofs.Ytjihfeffonadmaa
