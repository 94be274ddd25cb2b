/-
  Turned shares are shares of what is turned: the plain law.
-/
import Derived.Test.YtjihfeffonadmaaMatW
namespace Go.Proofs.Ytjihfeffonadmaa
set_option linter.unusedSimpArgs false
set_option linter.unusedVariables false
set_option linter.unusedSectionVars false
open Go Go.RowKit
theorem turn_ok {R C : Nat} {xs : List Int} (r1 : 1 ≤ R) (r2 : R ≤ 5) (c1 : 1 ≤ C) (c2 : C ≤ 5) (hl : xs.length = R * C) (h : xs.all rv = true) : (Mx.mk C R (tab (C * R) (turnV R C xs))).ok = true :=
  Mx.ok_of c1 c2 r1 r2 (tab_length _ _) (turn_all r1 h hl)
theorem turn_like {R C : Nat} {xs ys : List Int} (r1 : 1 ≤ R) (r2 : R ≤ 5) (c1 : 1 ≤ C) (c2 : C ≤ 5) (hl : xs.length = R * C) (h : xs.all rv = true) (hl' : ys.length = R * C) (h' : ys.all rv = true) :
    likeMx ⟨C, R, tab (C * R) (turnV R C xs)⟩ ⟨C, R, tab (C * R) (turnV R C ys)⟩ = true := by
  simp [likeMx, turn_ok r1 r2 c1 c2 hl h, turn_ok r1 r2 c1 c2 hl' h']
theorem smx_parts {m : SMx} (h : m.ok = true) : ∃ (R C : Nat) (xs ys : List Int), m = ⟨⟨R, C, xs⟩, ⟨R, C, ys⟩⟩ ∧ 1 ≤ R ∧ R ≤ 5 ∧ 1 ≤ C ∧ C ≤ 5 ∧ xs.length = R * C ∧ ys.length = R * C ∧ xs.all rv = true ∧ ys.all rv = true := by
  obtain ⟨⟨r, c, xs⟩, ⟨r', c', ys⟩⟩ := m
  obtain ⟨R, C, N, rfl, rfl, rfl, rfl, r1, r2, c1, c2, hRC, hN, hN', _, a1, a2⟩ := like_parts h
  exact ⟨R, C, xs, ys, rfl, r1, r2, c1, c2, by rw [hN, hRC], by rw [hN', hRC], a1, a2⟩
theorem turnSMx_val {R C : Nat} {xs ys : List Int} (h : (SMx.mk ⟨R, C, xs⟩ ⟨R, C, ys⟩).ok = true) (hx : (Mx.mk R C xs).ok = true) (hy : (Mx.mk R C ys).ok = true) :
    turnSMx ⟨⟨R, C, xs⟩, ⟨R, C, ys⟩⟩ = ⟨⟨C, R, tab (C * R) (turnV R C xs)⟩, ⟨C, R, tab (C * R) (turnV R C ys)⟩⟩ := by
  rw [turnSMx, if_pos h]
  dsimp only
  rw [turnMx_ok hx, turnMx_ok hy]
/-- Turning twice changes nothing. -/
theorem turn_twice {m : SMx} (h : m.ok = true) : turnSMx (turnSMx m) = m := by
  obtain ⟨R, C, xs, ys, rfl, r1, r2, c1, c2, hl, hl', a1, a2⟩ := smx_parts h
  have o1 := Mx.ok_of r1 r2 c1 c2 hl a1
  have o2 := Mx.ok_of r1 r2 c1 c2 hl' a2
  rw [turnSMx_val h o1 o2, turnSMx_val (turn_like r1 r2 c1 c2 hl a1 hl' a2) (turn_ok r1 r2 c1 c2 hl a1) (turn_ok r1 r2 c1 c2 hl' a2)]
  rw [turn_turn r1 c1 hl, turn_turn r1 c1 hl']
/-- Joined, the turned shares are what is joined, turned. -/
theorem turn_join {m : SMx} (h : m.ok = true) : addMx (turnSMx m).a (turnSMx m).b = turnMx (addMx m.a m.b) := by
  obtain ⟨R, C, xs, ys, rfl, r1, r2, c1, c2, hl, hl', a1, a2⟩ := smx_parts h
  have o1 := Mx.ok_of r1 r2 c1 c2 hl a1
  have o2 := Mx.ok_of r1 r2 c1 c2 hl' a2
  rw [turnSMx_val h o1 o2]
  dsimp only
  rw [addMx_ok (turn_like r1 r2 c1 c2 hl a1 hl' a2), addMx_ok h]
  dsimp only
  have oj : (Mx.mk R C (tab xs.length (addV xs ys))).ok = true := by
    refine Mx.ok_of r1 r2 c1 c2 (by rw [tab_length, hl]) ?_
    rw [List.all_eq_true]
    intro x hx
    simp only [tab, List.mem_map, List.mem_range] at hx
    obtain ⟨q, hq, rfl⟩ := hx
    have g1 : rv (xs.getD q 0) = true := by
      rw [List.getD_eq_getElem?_getD, List.getElem?_eq_getElem hq]; exact List.all_eq_true.1 a1 _ (List.getElem_mem _)
    have g2 : rv (ys.getD q 0) = true := by
      rw [List.getD_eq_getElem?_getD, List.getElem?_eq_getElem (by omega)]; exact List.all_eq_true.1 a2 _ (List.getElem_mem _)
    show rv (addR (xs.getD q 0) (ys.getD q 0)) = true
    generalize xs.getD q 0 = x at g1
    generalize ys.getD q 0 = y at g2
    simp [addR, g1, g2, rv_ro]
  rw [turnMx_ok oj, tab_length]
  congr 1
  refine tab_congr _ _ _ fun q hq => ?_
  have hr : q % R < R := Nat.mod_lt _ (by omega)
  have hc : q / R < C := Nat.div_lt_of_lt_mul (by rw [Nat.mul_comm]; exact hq)
  have h5 := cell_lt hr hc
  show addR ((tab (C * R) (turnV R C xs)).getD q 0) ((tab (C * R) (turnV R C ys)).getD q 0) = turnV R C (tab xs.length (addV xs ys)) q
  rw [tab_getD _ _ _ hq, tab_getD _ _ _ hq]
  show _ = (tab xs.length (addV xs ys)).getD (q % R * C + q / R) 0
  rw [tab_getD _ _ _ (by rw [hl]; exact h5)]
  rfl
end Go.Proofs.Ytjihfeffonadmaa
