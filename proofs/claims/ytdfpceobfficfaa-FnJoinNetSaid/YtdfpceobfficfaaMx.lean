/-
  Matrices of ring numbers: the plain functions.
-/
import Derived.Test.YtdfpceobfficfaaPure
namespace Go.Proofs.Ytdfpceobfficfaa
set_option linter.unusedSimpArgs false
set_option linter.unusedVariables false
set_option linter.unusedSectionVars false
open Go Go.RowKit
structure Mx where
  r : Int
  c : Int
  xs : List Int
def sideOk (n : Int) : Bool := decide (1 ≤ n) && decide (n ≤ 5)
theorem sideOk_iff {n : Int} : sideOk n = true ↔ 1 ≤ n ∧ n ≤ 5 := by simp [sideOk]
def Mx.ok (m : Mx) : Bool := sideOk m.r && sideOk m.c && decide ((m.xs.length : Int) = m.r * m.c) && m.xs.all rv
def Mx.zero : Mx := ⟨0, 0, []⟩
def likeMx (a b : Mx) : Bool := a.ok && b.ok && decide (a.r = b.r) && decide (a.c = b.c)
structure SMx where
  a : Mx
  b : Mx
def SMx.ok (s : SMx) : Bool := likeMx s.a s.b
def SMx.zero : SMx := ⟨Mx.zero, Mx.zero⟩
/-- A valid matrix has sides and as many ring numbers. -/
theorem Mx.ok_nat {m : Mx} (h : m.ok = true) : ∃ R C N : Nat, m = ⟨R, C, m.xs⟩ ∧ 1 ≤ R ∧ R ≤ 5 ∧ 1 ≤ C ∧ C ≤ 5 ∧ R * C = N ∧ m.xs.length = N ∧ N ≤ 25 ∧ m.xs.all rv = true := by
  obtain ⟨r, c, xs⟩ := m
  simp only [Mx.ok, Bool.and_eq_true, sideOk_iff, decide_eq_true_eq] at h
  obtain ⟨⟨⟨⟨h1, h2⟩, h3, h4⟩, h5⟩, h6⟩ := h
  have e1 : ((r.toNat : Nat) : Int) = r := Int.toNat_of_nonneg (by omega)
  have e2 : ((c.toNat : Nat) : Int) = c := Int.toNat_of_nonneg (by omega)
  have e3 : xs.length = r.toNat * c.toNat := by
    have : ((xs.length : Nat) : Int) = ((r.toNat * c.toNat : Nat) : Int) := by rw [Int.natCast_mul, e1, e2]; exact h5
    exact Int.ofNat.inj this
  refine ⟨r.toNat, c.toNat, r.toNat * c.toNat, by rw [e1, e2], by omega, by omega, by omega, by omega, rfl, e3, ?_, h6⟩
  have : r.toNat * c.toNat ≤ 5 * 5 := Nat.mul_le_mul (by omega) (by omega)
  omega
theorem Mx.ok_of {R C : Nat} {xs : List Int} (h1 : 1 ≤ R) (h2 : R ≤ 5) (h3 : 1 ≤ C) (h4 : C ≤ 5) (hl : xs.length = R * C) (hr : xs.all rv = true) : (Mx.mk R C xs).ok = true := by
  simp only [Mx.ok, Bool.and_eq_true, sideOk_iff, decide_eq_true_eq]
  exact ⟨⟨⟨⟨by omega, by omega⟩, by omega, by omega⟩, by rw [hl, Int.natCast_mul]⟩, hr⟩
/-- The values of a matrix with its rows as columns. -/
def turnV (R C : Nat) (xs : List Int) (q : Nat) : Int := xs.getD (q % R * C + q / R) 0
def turnMx (m : Mx) : Mx := if m.ok then ⟨m.c, m.r, tab (m.c.toNat * m.r.toNat) (turnV m.r.toNat m.c.toNat m.xs)⟩ else Mx.zero
def turnSMx (s : SMx) : SMx := if s.ok then ⟨turnMx s.a, turnMx s.b⟩ else SMx.zero
theorem turnMx_ok {R C : Nat} {xs : List Int} (h : (Mx.mk R C xs).ok = true) : turnMx ⟨R, C, xs⟩ = ⟨C, R, tab (C * R) (turnV R C xs)⟩ := by
  simp [turnMx, h]
theorem turnMx_not {m : Mx} (h : m.ok = false) : turnMx m = Mx.zero := by simp [turnMx, h]
theorem turnV_at {R C : Nat} {xs : List Int} {r c : Nat} (hr : r < R) : turnV R C xs (c * R + r) = xs.getD (r * C + c) 0 := by
  unfold turnV
  rw [Nat.mul_comm c R, Nat.mul_add_mod, Nat.mod_eq_of_lt hr, Nat.mul_add_div (by omega), Nat.div_eq_of_lt hr, Nat.add_zero]
theorem tab_succ (n : Nat) (f : Nat → Int) : tab (n + 1) f = tab n f ++ [f n] := by simp [tab, List.range_succ]
/-- What stands in the turned matrix when r rows and c values of the next one are stored. -/
def turnTo (R C : Nat) (xs : List Int) (r c : Nat) : List Int := tab (C * R) fun q => if q % R < r ∨ q % R = r ∧ q / R < c then turnV R C xs q else 0
theorem turnTo_zero (R C : Nat) (xs : List Int) : turnTo R C xs 0 0 = tab (C * R) fun _ => 0 := tab_congr _ _ _ fun q _ => by simp
theorem turnTo_row (R C : Nat) (xs : List Int) (r : Nat) : turnTo R C xs r C = turnTo R C xs (r + 1) 0 := tab_congr _ _ _ fun q hq => by
  have : q / R < C := Nat.div_lt_of_lt_mul (by rw [Nat.mul_comm]; exact hq)
  generalize turnV R C xs q = t
  generalize q / R = v at this
  generalize q % R = u
  by_cases h : u < r ∨ u = r ∧ v < C
  · rw [if_pos h, if_pos (by omega)]
  · rw [if_neg h, if_neg (by omega)]
theorem turnTo_set (R C : Nat) (xs : List Int) (r c : Nat) (hr : r < R) (hc : c < C) : (turnTo R C xs r c).set (c * R + r) (xs.getD (r * C + c) 0) = turnTo R C xs r (c + 1) := by
  unfold turnTo
  rw [tab_set]
  refine tab_congr _ _ _ fun q hq => ?_
  by_cases h : q = c * R + r
  · subst h
    rw [if_pos rfl, if_pos, turnV_at hr]
    refine .inr ⟨?_, ?_⟩
    · rw [Nat.mul_comm c R, Nat.mul_add_mod, Nat.mod_eq_of_lt hr]
    · rw [Nat.mul_comm c R, Nat.mul_add_div (by omega), Nat.div_eq_of_lt hr]; omega
  · rw [if_neg h]
    have hne : ¬ (q % R = r ∧ q / R = c) := fun ⟨h1, h2⟩ => h (by have := Nat.div_add_mod q R; rw [h1, h2] at this; rw [Nat.mul_comm c R]; exact this.symm)
    generalize turnV R C xs q = t
    generalize q / R = v at hne
    generalize q % R = u at hne
    by_cases h' : u < r ∨ u = r ∧ v < c
    · rw [if_pos h', if_pos (by omega)]
    · rw [if_neg h', if_neg (by omega)]
theorem turnTo_full (R C : Nat) (xs : List Int) : turnTo R C xs R 0 = tab (C * R) (turnV R C xs) := tab_congr _ _ _ fun q hq => by
  have : 0 < R := by
    rcases Nat.eq_zero_or_pos R with h | h
    · subst h; simp at hq
    · exact h
  exact if_pos (.inl (Nat.mod_lt _ this))
theorem turnTo_length (R C : Nat) (xs : List Int) (r c : Nat) : (turnTo R C xs r c).length = C * R := tab_length _ _
theorem cell_lt {R C r c : Nat} (hr : r < R) (hc : c < C) : r * C + c < R * C := by
  have : (r + 1) * C ≤ R * C := Nat.mul_le_mul_right _ hr
  rw [Nat.succ_mul] at this
  omega
end Go.Proofs.Ytdfpceobfficfaa
