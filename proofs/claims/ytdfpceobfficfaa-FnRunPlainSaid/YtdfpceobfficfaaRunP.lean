/-
  What layers make of a matrix, one behind the other: plain.
-/
import Derived.Test.YtdfpceobfficfaaDenI
import Derived.Test.YtdfpceobfficfaaPmP
namespace Go.Proofs.Ytdfpceobfficfaa
set_option linter.unusedSimpArgs false
set_option linter.unusedVariables false
set_option linter.unusedSectionVars false
open Go Go.RowKit
/-- What a valid layer makes of a valid matrix that it takes. -/
def runLy (l : Ly) (x : Mx) : Mx := match l.ws with
  | [] => ⟨x.r, x.c, mapL 2 x.xs⟩
  | [w, b] => ⟨w.r, x.c, denseL w.xs b.xs x.xs w.r.toNat w.c.toNat x.c.toNat⟩
  | [a, b, c] => ⟨x.r, x.c, mixL a.xs b.xs c.xs x.xs x.r.toNat x.c.toNat⟩
  | _ => Mx.zero
def runFrom : List Ly → Mx → Mx
  | [], x => x
  | l :: ls, x => runFrom ls (runLy l x)
def runPlain (ls : List Ly) (x : Mx) : Mx := if x.ok && (netSides ls x.r x.c).isSome then runFrom ls x else Mx.zero
theorem dense_parts {w b : Mx} (h : denseFit w b = true) : ∃ (R C : Nat) (ws bs : List Int), 1 ≤ R ∧ R ≤ 5 ∧ 1 ≤ C ∧ C ≤ 5 ∧ w = ⟨R, C, ws⟩ ∧ b = ⟨R, 1, bs⟩ ∧ ws.length = R * C ∧ bs.length = R ∧ ws.all rv = true ∧ bs.all rv = true := by
  simp only [denseFit, Bool.and_eq_true, decide_eq_true_eq] at h
  obtain ⟨⟨⟨hw, hb⟩, h1⟩, h2⟩ := h
  obtain ⟨rw', cw, ws⟩ := w
  obtain ⟨rb, cb, bs⟩ := b
  dsimp only at h1 h2
  subst h1 h2
  obtain ⟨R, C, N, e, r1, r2, c1, c2, n1, n2, _, n3⟩ := Mx.ok_nat hw
  obtain ⟨R', C', N', e', _, _, _, _, n1', n2', _, n3'⟩ := Mx.ok_nat hb
  dsimp only at e e' n2 n3 n2' n3'
  simp only [Mx.mk.injEq, and_true] at e e'
  obtain ⟨e1, e2⟩ := e
  obtain rfl : R' = R := by omega
  obtain rfl : C' = 1 := by omega
  refine ⟨R', C, ws, bs, r1, r2, c1, c2, ?_, ?_, by omega, by omega, n3, n3'⟩
  · simp only [Mx.mk.injEq, and_true]; omega
  · simp only [Mx.mk.injEq, and_true]; omega
inductive RunCase : Ly → Mx → Prop
  | dense (R C D : Nat) (ws bs xs : List Int) (r1 : 1 ≤ R) (r2 : R ≤ 5) (c1 : 1 ≤ C) (c2 : C ≤ 5) (d1 : 1 ≤ D) (d2 : D ≤ 5) (lw : ws.length = R * C) (lb : bs.length = R) (lx : xs.length = C * D) (aw : ws.all rv = true) (ab : bs.all rv = true) (ax : xs.all rv = true) :
      RunCase ⟨1, [⟨R, C, ws⟩, ⟨R, 1, bs⟩]⟩ ⟨C, D, xs⟩
  | ramp (R C : Nat) (xs : List Int) (r1 : 1 ≤ R) (r2 : R ≤ 5) (c1 : 1 ≤ C) (c2 : C ≤ 5) (lx : xs.length = R * C) (ax : xs.all rv = true) : RunCase ⟨2, []⟩ ⟨R, C, xs⟩
  | mix (X Y : Nat) (a b c xs : List Int) (x1 : 1 ≤ X) (x2 : X ≤ 5) (y1 : 1 ≤ Y) (y2 : Y ≤ 5) (la : a.length = Y * Y) (lb : b.length = Y * Y) (lc : c.length = Y * Y) (lx : xs.length = X * Y) (aa : a.all rv = true) (ab : b.all rv = true) (ac : c.all rv = true) (ax : xs.all rv = true) :
      RunCase ⟨3, [⟨Y, Y, a⟩, ⟨Y, Y, b⟩, ⟨Y, Y, c⟩]⟩ ⟨X, Y, xs⟩
theorem run_case {l : Ly} {x : Mx} {p : Int × Int} (hl : l.ok = true) (hx : x.ok = true) (hs : l.sides x.r x.c = some p) : RunCase l x := by
  obtain ⟨X, Z, N, e0, x1, x2, z1, z2, hXZ, hN, _, hall⟩ := Mx.ok_nat hx
  obtain ⟨r, c, xs⟩ := x
  dsimp only at e0 hN hall hs
  obtain ⟨rfl, rfl⟩ : r = X ∧ c = Z := by injection e0 with e1 e2 _; exact ⟨e1, e2⟩
  cases Ly.ok_case hl with
  | dense w b hd =>
    obtain ⟨R, C, ws, bs, r1, r2, c1, c2, rfl, rfl, lw, lb, aw, ab⟩ := dense_parts hd
    simp only [Ly.sides] at hs
    split at hs
    · obtain rfl : C = X := by omega
      exact .dense R C Z ws bs xs r1 r2 c1 c2 z1 z2 lw lb (hN.trans hXZ.symm) aw ab hall
    · cases hs
  | ramp => exact .ramp X Z xs x1 x2 z1 z2 (hN.trans hXZ.symm) hall
  | mix a b c hd =>
    obtain ⟨Y, xa, xb, xc, y1, y2, rfl, rfl, rfl, la, lb, lc, aa, ab, ac⟩ := mix_parts hd
    simp only [Ly.sides] at hs
    split at hs
    · obtain rfl : Y = Z := by omega
      exact .mix X Y xa xb xc xs x1 x2 y1 y2 la lb lc (hN.trans hXZ.symm) aa ab ac hall
    · cases hs
theorem runLy_next {l : Ly} {x : Mx} {r c : Int} (hl : l.ok = true) (hx : x.ok = true) (hs : l.sides x.r x.c = some (r, c)) : (runLy l x).ok = true ∧ (runLy l x).r = r ∧ (runLy l x).c = c := by
  cases run_case hl hx hs with
  | dense R C D ws bs xs r1 r2 c1 c2 d1 d2 lw lb lx aw ab ax =>
    simp only [Ly.sides, if_true, Option.some.injEq, Prod.mk.injEq] at hs
    exact ⟨Mx.ok_of r1 r2 d1 d2 (denseL_len _ _ _ _ _ _) (denseL_all ab), hs.1, hs.2⟩
  | ramp R C xs r1 r2 c1 c2 lx ax =>
    simp only [Ly.sides, Option.some.injEq, Prod.mk.injEq] at hs
    exact ⟨Mx.ok_of r1 r2 c1 c2 (by rw [mapL_len, lx]) (mapL_all ax), hs.1, hs.2⟩
  | mix X Y a b c xs x1 x2 y1 y2 la lb lc lx aa ab ac ax =>
    simp only [Ly.sides, if_true, Option.some.injEq, Prod.mk.injEq] at hs
    exact ⟨Mx.ok_of x1 x2 y1 y2 (cutV_len _ _ _ _ _) (cutV_all _ _ _ _ _), hs.1, hs.2⟩
theorem runFrom_ok : ∀ {ls : List Ly} {x : Mx}, x.ok = true → (sidesFrom ls x.r x.c).isSome = true → (runFrom ls x).ok = true
  | [], x, hx, _ => hx
  | l :: ls, x, hx, h => by
    unfold sidesFrom at h
    split at h
    · rename_i hl
      split at h
      · rename_i r c hs
        have := runLy_next hl hx hs
        show (runFrom ls (runLy l x)).ok = true
        exact runFrom_ok (x := runLy l x) this.1 (by rw [this.2.1, this.2.2]; exact h)
      · cases h
    · cases h
theorem runPlain_x {ls : List Ly} {x : Mx} (h : x.ok = false) : runPlain ls x = Mx.zero := by
  unfold runPlain
  rw [h]
  rfl
theorem runPlain_s {ls : List Ly} {x : Mx} (h : netSides ls x.r x.c = none) : runPlain ls x = Mx.zero := by
  unfold runPlain
  rw [h, Option.isSome_none, Bool.and_false]
  rfl
theorem from_all : ∀ (ls : List Ly) (r c : Int) (x : Int × Int), sidesFrom ls r c = some x → ls.all Ly.ok = true
  | [], _, _, _, _ => rfl
  | l :: ls, r, c, x, h => by
    unfold sidesFrom at h
    split at h
    · rename_i hok
      split at h
      · rw [List.all_cons, hok, from_all ls _ _ _ h]; rfl
      · cases h
    · cases h
theorem from_cons {l : Ly} {ls : List Ly} {r c : Int} {x : Int × Int} (hr : 1 ≤ r ∧ r ≤ 5) (hc : 1 ≤ c ∧ c ≤ 5) (h : sidesFrom (l :: ls) r c = some x) :
    ∃ a b, l.ok = true ∧ l.sides r c = some (a, b) ∧ (1 ≤ a ∧ a ≤ 5) ∧ (1 ≤ b ∧ b ≤ 5) ∧ sidesFrom ls a b = some x := by
  unfold sidesFrom at h
  split at h
  · rename_i hok
    split at h
    · rename_i a b hs
      obtain ⟨ha, hb⟩ := Ly.sides_ok hok hr hc hs
      exact ⟨a, b, hok, hs, ha, hb, h⟩
    · cases h
  · cases h
theorem sides_some {ls : List Ly} {r c : Int} {x : Int × Int} (h : netSides ls r c = some x) : ls.length ≤ 4 ∧ (1 ≤ r ∧ r ≤ 5) ∧ (1 ≤ c ∧ c ≤ 5) ∧ sidesFrom ls r c = some x := by
  unfold netSides at h
  split at h
  · rename_i hc
    simp only [Bool.and_eq_true, decide_eq_true_eq, sideOk_iff] at hc
    exact ⟨hc.1.1, hc.1.2, hc.2, h⟩
  · cases h
end Go.Proofs.Ytdfpceobfficfaa
