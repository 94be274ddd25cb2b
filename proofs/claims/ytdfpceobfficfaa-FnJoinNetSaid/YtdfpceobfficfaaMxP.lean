/-
  Products of matrices, matrices mapped, sums of rows, mixing: the plain functions.
-/
import Derived.Test.YtdfpceobfficfaaNumA
import Derived.Test.YtdfpceobfficfaaMx
namespace Go.Proofs.Ytdfpceobfficfaa
set_option linter.unusedSimpArgs false
set_option linter.unusedVariables false
set_option linter.unusedSectionVars false
open Go Go.RowKit
/-- The sum of the first k products of a row and a column (C columns, D columns). -/
def dot (xs ys : List Int) (C D r c : Nat) : Nat → Int
  | 0 => 0
  | k + 1 => dot xs ys C D r c k + xs.getD (r * C + k) 0 * ys.getD (k * D + c) 0
def mulAt (xs ys : List Int) (C D q : Nat) : Int := ro (dot xs ys C D (q / D) (q % D) C)
def mulMx (a b : Mx) : Mx := ⟨a.r, b.c, tab (a.r.toNat * b.c.toNat) (mulAt a.xs b.xs a.c.toNat b.c.toNat)⟩
def mapV (k : Int) (xs : List Int) (q : Nat) : Int := fnAt k (xs.getD q 0)
def mapMx (k : Int) (m : Mx) : Mx := ⟨m.r, m.c, tab m.xs.length (mapV k m.xs)⟩
/-- The sum of the first k values of a row. -/
def rowTo (xs : List Int) (C r : Nat) : Nat → Int
  | 0 => 0
  | k + 1 => rowTo xs C r k + xs.getD (r * C + k) 0
def sumV (xs : List Int) (C r : Nat) : Int := ro (rowTo xs C r C)
def sumsMx (m : Mx) : Mx := ⟨m.r, 1, tab m.r.toNat (sumV m.xs m.c.toNat)⟩
def cutMul (a b : Mx) : Mx := mapMx 1 (mulMx a b)
def scaleV (xs ys : List Int) (C q : Nat) : Int := mulR (xs.getD q 0) (ys.getD (q / C) 0)
def scaleMx (g b : Mx) : Mx := ⟨g.r, g.c, tab g.xs.length (scaleV g.xs b.xs g.c.toNat)⟩
theorem fil_set (f : Nat → Int) (n k : Nat) : (tab n fun q => if q < k then f q else 0).set k (f k) = tab n fun q => if q < k + 1 then f q else 0 := by
  rw [tab_set]
  refine tab_congr _ _ _ fun q _ => ?_
  by_cases h : q = k
  · subst h; simp
  · simp only [h, if_false]
    by_cases h2 : q < k
    · rw [if_pos h2, if_pos (by omega)]
    · rw [if_neg h2, if_neg (by omega)]
theorem fil_zero (f : Nat → Int) (n : Nat) : (tab n fun q => if q < 0 then f q else 0) = tab n fun _ => 0 := tab_congr _ _ _ fun q _ => by simp
theorem fil_full (f : Nat → Int) (n : Nat) : (tab n fun q => if q < n then f q else 0) = tab n f := tab_congr _ _ _ fun q h => by simp [h]
theorem dvd_at {r D c : Nat} (hc : c < D) : (r * D + c) / D = r := by
  rw [Nat.mul_comm, Nat.mul_add_div (by omega), Nat.div_eq_of_lt hc, Nat.add_zero]
theorem mdl_at {r D c : Nat} (hc : c < D) : (r * D + c) % D = c := by
  rw [Nat.mul_comm, Nat.mul_add_mod, Nat.mod_eq_of_lt hc]
theorem mulAt_at (xs ys : List Int) {C D r c : Nat} (hc : c < D) : mulAt xs ys C D (r * D + c) = ro (dot xs ys C D r c C) := by
  unfold mulAt
  rw [dvd_at hc, mdl_at hc]
theorem getD_rv {xs : List Int} (h : xs.all rv = true) (k : Nat) : rv (xs.getD k 0) = true := by
  rcases Nat.lt_or_ge k xs.length with h1 | h1
  · rw [List.getD_eq_getElem?_getD, List.getElem?_eq_getElem h1]
    exact List.all_eq_true.1 h _ (List.getElem_mem h1)
  · rw [List.getD_eq_getElem?_getD, List.getElem?_eq_none h1]; rfl
theorem dot_bd {xs ys : List Int} (hx : xs.all rv = true) (hy : ys.all rv = true) (C D r c : Nat) : ∀ k, 0 ≤ dot xs ys C D r c k ∧ dot xs ys C D r c k ≤ 16769025 * k
  | 0 => by simp [dot]
  | k + 1 => by
    have ih := dot_bd hx hy C D r c k
    have h1 := rv_bd (getD_rv hx (r * C + k))
    have h2 := rv_bd (getD_rv hy (k * D + c))
    unfold dot
    generalize xs.getD (r * C + k) 0 = a at *
    generalize ys.getD (k * D + c) 0 = b at *
    have h3 : 0 ≤ a * b := Int.mul_nonneg h1.1 h2.1
    have h4 : a * b ≤ 4095 * 4095 := Int.mul_le_mul (by omega) (by omega) h2.1 (by omega)
    omega
theorem rowTo_bd {xs : List Int} (hx : xs.all rv = true) (C r : Nat) : ∀ k, 0 ≤ rowTo xs C r k ∧ rowTo xs C r k ≤ 4095 * k
  | 0 => by simp [rowTo]
  | k + 1 => by
    have ih := rowTo_bd hx C r k
    have h1 := rv_bd (getD_rv hx (r * C + k))
    unfold rowTo
    generalize xs.getD (r * C + k) 0 = a at *
    omega
theorem tab_all {n : Nat} {f : Nat → Int} (h : ∀ q, q < n → rv (f q) = true) : (tab n f).all rv = true := by
  rw [List.all_eq_true]
  intro x hx
  obtain ⟨q, hq, rfl⟩ := List.mem_map.1 hx
  exact h q (List.mem_range.1 hq)
theorem mulMx_ok {a b : Mx} (ha : a.ok = true) (hb : b.ok = true) : (mulMx a b).ok = true := by
  obtain ⟨R, C, N, e1, r1, r2, c1, c2, _⟩ := Mx.ok_nat ha
  obtain ⟨R', C', N', e2, r3, r4, c3, c4, _⟩ := Mx.ok_nat hb
  rw [e1, e2]
  exact Mx.ok_of r1 r2 c3 c4 (by rw [tab_length]; simp) (tab_all fun q _ => rv_ro _)
theorem mapMx_ok {k : Int} {m : Mx} (h : m.ok = true) : (mapMx k m).ok = true := by
  obtain ⟨R, C, N, e1, r1, r2, c1, c2, h1, h2, _, h3⟩ := Mx.ok_nat h
  rw [e1]
  exact Mx.ok_of r1 r2 c1 c2 (by rw [tab_length]; dsimp only; rw [h2, h1]) (tab_all fun q _ => fnAt_rv (getD_rv h3 q))
theorem sumsMx_ok {m : Mx} (h : m.ok = true) : (sumsMx m).ok = true := by
  obtain ⟨R, C, N, e1, r1, r2, c1, c2, _⟩ := Mx.ok_nat h
  rw [e1]
  exact Mx.ok_of (C := 1) r1 r2 (by omega) (by omega) (by rw [tab_length]; simp) (tab_all fun q _ => rv_ro _)
theorem cutMul_ok {a b : Mx} (ha : a.ok = true) (hb : b.ok = true) : (cutMul a b).ok = true := mapMx_ok (mulMx_ok ha hb)
theorem mulR_rv {a b : Int} (ha : rv a = true) (hb : rv b = true) : rv (mulR a b) = true := by
  unfold mulR
  rw [ha, hb]
  exact rv_ro _
theorem scaleMx_ok {g b : Mx} (hg : g.ok = true) (hb : b.ok = true) : (scaleMx g b).ok = true := by
  obtain ⟨R, C, N, e1, r1, r2, c1, c2, h1, h2, _, h3⟩ := Mx.ok_nat hg
  obtain ⟨_, _, _, _, _, _, _, _, _, _, _, h4⟩ := Mx.ok_nat hb
  rw [e1]
  exact Mx.ok_of r1 r2 c1 c2 (by rw [tab_length]; dsimp only; rw [h2, h1]) (tab_all fun q _ => mulR_rv (getD_rv h3 q) (getD_rv h4 _))
theorem turnMx_ok' {m : Mx} (h : m.ok = true) : (turnMx m).ok = true := by
  obtain ⟨R, C, N, e1, r1, r2, c1, c2, h1, h2, _, h3⟩ := Mx.ok_nat h
  obtain ⟨r, c, xs⟩ := m
  dsimp only at e1 h2 h3
  obtain ⟨rfl, rfl⟩ : r = R ∧ c = C := by injection e1 with a b _; exact ⟨a, b⟩
  rw [turnMx_ok h]
  exact Mx.ok_of c1 c2 r1 r2 (by rw [tab_length]) (tab_all fun q _ => getD_rv h3 _)
/-- What mixing makes of a matrix. -/
def mixG (w0 w1 x : Mx) : Mx := mapMx 4 (cutMul (cutMul x w0) (turnMx (cutMul x w1)))
def mixH (g : Mx) : Mx := mapMx 1 (scaleMx g (mapMx 5 (sumsMx g)))
def mixRun (w0 w1 w2 x : Mx) : Mx := cutMul (mixH (mixG w0 w1 x)) (cutMul x w2)
end Go.Proofs.Ytdfpceobfficfaa
