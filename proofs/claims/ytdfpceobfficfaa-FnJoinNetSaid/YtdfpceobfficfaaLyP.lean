/-
  Layers, networks and their needs: the plain functions.
-/
import Derived.Test.YtdfpceobfficfaaLy
namespace Go.Proofs.Ytdfpceobfficfaa
set_option linter.unusedSimpArgs false
set_option linter.unusedVariables false
set_option linter.unusedSectionVars false
open Go Go.RowKit
/-! ### Sizes, as the laws reckon them -/
def szMsFrom : List Mx → Int → Int
  | [], k => k
  | m :: ms, k => if k - m.xs.length < 0 then -1 else szMsFrom ms (k - m.xs.length)
def szMs (ms : List Mx) (k : Int) : Int := if k - ms.length < 0 then -1 else szMsFrom ms (k - ms.length)
def szLsFrom : List Ly → Int → Int
  | [], k => k
  | l :: ls, k => if szMs l.ws k < 0 then -1 else szLsFrom ls (szMs l.ws k)
def szLs (ls : List Ly) (k : Int) : Int := if k - ls.length < 0 then -1 else szLsFrom ls (k - ls.length)
theorem szMsFrom_le : ∀ (ms : List Mx) (k : Int), 0 ≤ k → szMsFrom ms k ≤ k
  | [], k, _ => Int.le_refl _
  | m :: ms, k, hk => by
    unfold szMsFrom
    split
    · omega
    · have := szMsFrom_le ms (k - m.xs.length) (by omega)
      omega
theorem szMs_le (ms : List Mx) (k : Int) (hk : 0 ≤ k) : szMs ms k ≤ k := by
  unfold szMs
  split
  · omega
  · have := szMsFrom_le ms (k - ms.length) (by omega)
    omega
theorem szMsFrom_each : ∀ (ms : List Mx) (k : Int), 0 ≤ szMsFrom ms k → ∀ m ∈ ms, (m.xs.length : Int) ≤ k
  | [], _, _, m, hm => by cases hm
  | m :: ms, k, h, m', hm => by
    unfold szMsFrom at h
    split at h
    · omega
    · rcases List.mem_cons.1 hm with rfl | hm
      · omega
      · have := szMsFrom_each ms _ h m' hm
        omega
theorem szMs_each {ms : List Mx} {k : Int} (h : 0 ≤ szMs ms k) : (ms.length : Int) ≤ k ∧ ∀ m ∈ ms, (m.xs.length : Int) ≤ k := by
  unfold szMs at h
  split at h
  · omega
  · refine ⟨by omega, fun m hm => ?_⟩
    have := szMsFrom_each ms _ h m hm
    omega
theorem szLsFrom_le : ∀ (ls : List Ly) (k : Int), 0 ≤ k → szLsFrom ls k ≤ k
  | [], k, _ => Int.le_refl _
  | l :: ls, k, hk => by
    unfold szLsFrom
    split
    · omega
    · have := szLsFrom_le ls (szMs l.ws k) (by omega)
      have := szMs_le l.ws k hk
      omega
def LySmall (b : Nat) (l : Ly) : Prop := l.ws.length ≤ b ∧ ∀ m ∈ l.ws, m.xs.length ≤ b
theorem szLsFrom_each : ∀ (ls : List Ly) (k : Int), 0 ≤ k → 0 ≤ szLsFrom ls k → ∀ l ∈ ls, LySmall k.toNat l
  | [], _, _, _, m, hm => by cases hm
  | l :: ls, k, hk, h, l', hl => by
    unfold szLsFrom at h
    split at h
    · omega
    · rename_i h0
      have hle := szMs_le l.ws k hk
      rcases List.mem_cons.1 hl with rfl | hl
      · obtain ⟨h1, h2⟩ := szMs_each (Int.not_lt.1 h0)
        exact ⟨by omega, fun m hm => by have := h2 m hm; omega⟩
      · obtain ⟨h1, h2⟩ := szLsFrom_each ls _ (by omega) h l' hl
        exact ⟨by omega, fun m hm => by have := h2 m hm; omega⟩
theorem szLs_each {ls : List Ly} {k : Nat} (h : 0 ≤ szLs ls k) : ls.length ≤ k ∧ ∀ l ∈ ls, LySmall k l := by
  unfold szLs at h
  split at h
  · omega
  · refine ⟨by omega, fun l hl => ?_⟩
    obtain ⟨h1, h2⟩ := szLsFrom_each ls _ (by omega) h l hl
    exact ⟨by omega, fun m hm => by have := h2 m hm; omega⟩
/-! ### Valid layers, and their sides -/
def denseFit (w b : Mx) : Bool := w.ok && b.ok && decide (b.c = 1) && decide (b.r = w.r)
def mixFit (a b c : Mx) : Bool := a.ok && b.ok && c.ok && decide (a.r = a.c) && (decide (a.r = b.r) && decide (a.c = b.c)) && (decide (a.r = c.r) && decide (a.c = c.c))
def Ly.ok (l : Ly) : Bool := match l.ws with
  | [] => decide (l.kind = 2)
  | [w, b] => decide (l.kind = 1) && denseFit w b
  | [a, b, c] => decide (l.kind = 3) && mixFit a b c
  | _ => false
/-- The sides behind a valid layer, if it fits. -/
def Ly.sides (l : Ly) (r c : Int) : Option (Int × Int) := match l.ws with
  | [] => some (r, c)
  | [w, _] => if w.c = r then some (w.r, c) else none
  | w :: _ => if w.r = c then some (r, c) else none
inductive LyCase : Ly → Prop where
  | dense (w b : Mx) (h : denseFit w b = true) : LyCase ⟨1, [w, b]⟩
  | ramp : LyCase ⟨2, []⟩
  | mix (a b c : Mx) (h : mixFit a b c = true) : LyCase ⟨3, [a, b, c]⟩
theorem Ly.ok_case {l : Ly} (h : l.ok = true) : LyCase l := by
  obtain ⟨k, ws⟩ := l
  unfold Ly.ok at h
  dsimp only at h
  split at h
  · obtain rfl : k = 2 := by simpa using h
    exact .ramp
  · simp only [Bool.and_eq_true, decide_eq_true_eq] at h
    obtain ⟨rfl, h⟩ := h
    exact .dense _ _ h
  · simp only [Bool.and_eq_true, decide_eq_true_eq] at h
    obtain ⟨rfl, h⟩ := h
    exact .mix _ _ _ h
  · cases h
/-- The sides behind layers, one after the other. -/
def sidesFrom : List Ly → Int → Int → Option (Int × Int)
  | [], r, c => some (r, c)
  | l :: ls, r, c => if l.ok then (match l.sides r c with | some (r', c') => sidesFrom ls r' c' | none => none) else none
def netSides (ls : List Ly) (r c : Int) : Option (Int × Int) := if decide (ls.length ≤ 4) && sideOk r && sideOk c then sidesFrom ls r c else none
def sidesRes (x : Option (Int × Int)) : Value := match x with
  | some (r, c) => .tuple #[.int .i64 r, .int .i64 c, .bool true]
  | none => .tuple #[.int .i64 0, .int .i64 0, .bool false]
theorem Mx.ok_sides {m : Mx} (h : m.ok = true) : (1 ≤ m.r ∧ m.r ≤ 5) ∧ 1 ≤ m.c ∧ m.c ≤ 5 := by
  simp only [Mx.ok, Bool.and_eq_true, sideOk_iff] at h
  exact ⟨h.1.1.1, h.1.1.2⟩
/-- Behind a valid layer that fits the sides are sides. -/
theorem Ly.sides_ok {l : Ly} (h : l.ok = true) {r c r' c' : Int} (hr : 1 ≤ r ∧ r ≤ 5) (hc : 1 ≤ c ∧ c ≤ 5) (hs : l.sides r c = some (r', c')) : (1 ≤ r' ∧ r' ≤ 5) ∧ 1 ≤ c' ∧ c' ≤ 5 := by
  cases Ly.ok_case h with
  | dense w b hd =>
    simp only [Ly.sides] at hs
    simp only [denseFit, Bool.and_eq_true] at hd
    have := Mx.ok_sides hd.1.1.1
    split at hs
    · injection hs with hs
      injection hs with h1 h2
      subst h1; subst h2
      exact ⟨this.1, hc⟩
    · cases hs
  | ramp =>
    simp only [Ly.sides, Option.some.injEq, Prod.mk.injEq] at hs
    obtain ⟨rfl, rfl⟩ := hs
    exact ⟨hr, hc⟩
  | mix a b d hd =>
    simp only [Ly.sides] at hs
    split at hs
    · injection hs with hs
      injection hs with h1 h2
      subst h1; subst h2
      exact ⟨hr, hc⟩
    · cases hs
/-! ### Needs -/
structure Need where
  t : Int
  m : Int
  b : Int
  o : Int
def Need.zero : Need := ⟨0, 0, 0, 0⟩
def Need.add (x y : Need) : Need := ⟨x.t + y.t, x.m + y.m, x.b + y.b, x.o + y.o⟩
/-- What a product needs, cut. -/
def prodNeed (r i c : Int) : Need := ⟨0, 1, r * c, r * i + i * c + r * c⟩
def Ly.needs (l : Ly) (r c : Int) : Need := match l.ws with
  | [] => ⟨0, 0, r * c, r * c⟩
  | [w, _] => prodNeed w.r r c
  | _ => ⟨r * r, 5, 3 * (r * c) + r * r + r * c + 2 * (r * r) + r, 3 * (r * c + c * c + r * c) + (r * c + c * r + r * r) + (r * r + r * c + r * c) + 4 * (r * r) + r⟩
def needsFrom : List Ly → Int → Int → Need
  | [], _, _ => Need.zero
  | l :: ls, r, c => match l.sides r c with
    | some (r', c') => (l.needs r c).add (needsFrom ls r' c')
    | none => Need.zero
def netNeeds (ls : List Ly) (r c : Int) : Need := match netSides ls r c with
  | some _ => needsFrom ls r c
  | none => Need.zero
end Go.Proofs.Ytdfpceobfficfaa
