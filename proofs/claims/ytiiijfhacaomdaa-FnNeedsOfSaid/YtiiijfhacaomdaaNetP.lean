/-
  Two parts of a network: the plain laws; parts of a row of layers.
-/
import Derived.Test.YtiiijfhacaomdaaNdT
import Derived.Test.YtiiijfhacaomdaaDraw
namespace Go.Proofs.Ytiiijfhacaomdaa
set_option linter.unusedSimpArgs false
set_option linter.unusedVariables false
set_option linter.unusedSectionVars false
open Go Go.RowKit
theorem sidesFrom_append : ∀ (xs ys : List Ly) (r c : Int) (x : Int × Int), (1 ≤ r ∧ r ≤ 5) → (1 ≤ c ∧ c ≤ 5) → sidesFrom (xs ++ ys) r c = some x →
    ∃ a b, sidesFrom xs r c = some (a, b) ∧ (1 ≤ a ∧ a ≤ 5) ∧ (1 ≤ b ∧ b ≤ 5) ∧ sidesFrom ys a b = some x ∧ needsFrom (xs ++ ys) r c = (needsFrom xs r c).add (needsFrom ys a b)
  | [], ys, r, c, x, hr, hc, h => ⟨r, c, rfl, hr, hc, h, by simp [needsFrom, Need.add, Need.zero]⟩
  | l :: xs, ys, r, c, x, hr, hc, h => by
    obtain ⟨a, b, hok, hs, ha, hb, h'⟩ := sidesFrom_cons (l := l) (ls := xs ++ ys) hr hc h
    obtain ⟨a', b', h1, h2, h3, h4, h5⟩ := sidesFrom_append xs ys a b x ha hb h'
    refine ⟨a', b', ?_, h2, h3, h4, ?_⟩
    · unfold sidesFrom
      rw [if_pos hok, hs]
      exact h1
    · rw [List.cons_append, needsFrom_cons hs, needsFrom_cons hs, h5]
      simp only [Need.add, Need.mk.injEq]
      omega
theorem netSides_of {ls : List Ly} {r c : Int} {x : Int × Int} (h4 : ls.length ≤ 4) (hr : 1 ≤ r ∧ r ≤ 5) (hc : 1 ≤ c ∧ c ≤ 5) (h : sidesFrom ls r c = some x) : netSides ls r c = some x := by
  rw [netSides, if_pos, h]
  simp only [Bool.and_eq_true, decide_eq_true_eq, sideOk_iff]
  exact ⟨⟨h4, hr⟩, hc⟩
/-- Two parts of a network follow each other. -/
theorem net_parts {ls : List Ly} {r c : Int} {x : Int × Int} (h : netSides ls r c = some x) (q : Nat) (hq : q ≤ ls.length) :
    ∃ a b, netSides (ls.take q) r c = some (a, b) ∧ netSides (ls.drop q) a b = some x ∧ netNeeds ls r c = (netNeeds (ls.take q) r c).add (netNeeds (ls.drop q) a b) := by
  obtain ⟨h4, hr, hc, hs⟩ := netSides_some h
  have hs' := hs
  rw [← List.take_append_drop q ls] at hs'
  obtain ⟨a, b, h1, h2, h3, h5, h6⟩ := sidesFrom_append _ _ r c x hr hc hs'
  rw [List.take_append_drop] at h6
  have e1 := netSides_of (by rw [List.length_take]; omega) hr hc h1
  have e2 := netSides_of (by rw [List.length_drop]; omega) h2 h3 h5
  refine ⟨a, b, e1, e2, ?_⟩
  rw [netNeeds, netNeeds, netNeeds, h, e1, e2]
  exact h6
theorem sides_bd {ls : List Ly} {r c a b : Int} (h : netSides ls r c = some (a, b)) : (1 ≤ a ∧ a ≤ 5) ∧ 1 ≤ b ∧ b ≤ 5 := by
  obtain ⟨h4, hr, hc, hs⟩ := netSides_some h
  rw [← List.append_nil ls] at hs
  obtain ⟨a', b', _, h2, h3, h5, _⟩ := sidesFrom_append _ _ r c _ hr hc hs
  simp only [sidesFrom, Option.some.injEq, Prod.mk.injEq] at h5
  obtain ⟨rfl, rfl⟩ := h5
  exact ⟨h2, h3⟩
theorem SeesLs.front {w : World} {A : Option Addr} {n cap : Nat} {ls : List Ly} (h : SeesLs w (.slice A n cap) ls) (k : Nat) (hk : k ≤ n) : SeesLs w (.slice A k cap) (ls.take k) := by
  obtain ⟨A', cap', e, hc, hm, h2⟩ := h
  injection e with e1 e2 e3
  subst e1; subst e2; subst e3
  have hl : (ls.take k).length = k := by rw [List.length_take]; omega
  refine ⟨A, cap, by rw [hl], by rw [hl]; omega, hm, fun hn => ?_⟩
  rw [hl] at hn
  obtain ⟨b, off, rfl, hlt, h3⟩ := h2 (by omega)
  refine ⟨b, off, rfl, hlt, fun q l hq => h3 q l ?_⟩
  rw [List.getElem?_take] at hq
  split at hq
  · exact hq
  · cases hq
theorem SeesLs.rest {w : World} {n cap b off : Nat} {ls : List Ly} (h : SeesLs w (.slice (some ⟨b, off, none⟩) n cap) ls) (k m : Nat) (hk : k + m = n) (off' cap' : Nat) (ho : off' = off + k * 2) (hc' : m ≤ cap' ∧ cap' ≤ cap) : SeesLs w (.slice (some ⟨b, off', none⟩) m cap') (ls.drop k) := by
  obtain ⟨A', cap0, e, hc, hm, h2⟩ := h
  injection e with e1 e2 e3
  subst e1; subst e3
  have hl : (ls.drop k).length = m := by rw [List.length_drop]; omega
  refine ⟨_, cap', by rw [hl], by rw [hl]; exact hc'.1, by omega, fun hn => ?_⟩
  rw [hl] at hn
  obtain ⟨b', off0, e, hlt, h3⟩ := h2 (by omega)
  injection e with e
  injection e with e1 e2 e3
  subst e1; subst e2; subst ho
  refine ⟨b, off + k * 2, rfl, hlt, fun q l hq => ?_⟩
  rw [List.getElem?_drop] at hq
  obtain ⟨u, c1, c2, hu⟩ := h3 _ l hq
  refine ⟨u, ?_, ?_, hu⟩
  · rwa [Nat.add_mul, ← Nat.add_assoc] at c1
  · rwa [Nat.add_mul, ← Nat.add_assoc] at c2
/-- A net is drawn, and sides: it is seen. -/
def DrawnNet (w0 : World) (e : Ending) (w' : World) : Prop :=
  ∃ (u : Value) (ls : List Ly) (r c : Int), e = .returned (.tuple #[u, .int .i64 r, .int .i64 c]) ∧ SeesLs w' u ls ∧ ((u = .slice none 0 0 ∧ ls = []) ∨ ∃ g cap, u = .slice (some ⟨g, 0, none⟩) ls.length cap) ∧ Below w0.heap.size w0 w'
end Go.Proofs.Ytiiijfhacaomdaa
