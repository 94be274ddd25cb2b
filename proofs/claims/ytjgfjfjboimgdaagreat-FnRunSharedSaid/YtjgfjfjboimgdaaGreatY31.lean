/- NetP -/
import Derived.Test.YtjgfjfjboimgdaaGreatY11
namespace Go.Proofs.YtjgfjfjboimgdaaGreat
set_option linter.unusedSimpArgs false
set_option linter.unusedVariables false
set_option linter.unusedSectionVars false
open Go Go.RowKit
set_option maxHeartbeats 8000000
set_option maxRecDepth 20000
section
theorem SeesLs.front {w : World} {A : Option Addr} {n cap : Nat} {ls : List Ly} (h : SeesLs w (.slice A n cap) ls) (k : Nat) (hk : k ≤ n) : SeesLs w (.slice A k cap) (ls.take k) := by
  obtain ⟨A', cap', e, hc, hm, h2⟩ := h
  injection e with e1 e2 e3
  subst e1; subst e2; subst e3
  have hl : (ls.take k).length = k := by rw [List.length_take]; omega
  refine ⟨A, cap, by rw [hl], by rw [hl]; omega, hm, fun hn => ?_⟩
  rw [hl] at hn
  obtain ⟨b, off, rfl, hlt, h3⟩ := h2 (by omega)
  refine ⟨b, off, rfl, hlt, fun q l hq => h3 q l ?_⟩
  rw [List.getElem?_take] at hq
  split at hq
  · exact hq
  · cases hq
theorem SeesLs.rest {w : World} {n cap b off : Nat} {ls : List Ly} (h : SeesLs w (.slice (some ⟨b, off, none⟩) n cap) ls) (k m : Nat) (hk : k + m = n) (off' cap' : Nat) (ho : off' = off + k * 2) (hc' : m ≤ cap' ∧ cap' ≤ cap) : SeesLs w (.slice (some ⟨b, off', none⟩) m cap') (ls.drop k) := by
  obtain ⟨A', cap0, e, hc, hm, h2⟩ := h
  injection e with e1 e2 e3
  subst e1; subst e3
  have hl : (ls.drop k).length = m := by rw [List.length_drop]; omega
  refine ⟨_, cap', by rw [hl], by rw [hl]; exact hc'.1, by omega, fun hn => ?_⟩
  rw [hl] at hn
  obtain ⟨b', off0, e, hlt, h3⟩ := h2 (by omega)
  injection e with e
  injection e with e1 e2 e3
  subst e1; subst e2; subst ho
  refine ⟨b, off + k * 2, rfl, hlt, fun q l hq => ?_⟩
  rw [List.getElem?_drop] at hq
  obtain ⟨u, c1, c2, hu⟩ := h3 _ l hq
  refine ⟨u, ?_, ?_, hu⟩
  · rwa [Nat.add_mul, ← Nat.add_assoc] at c1
  · rwa [Nat.add_mul, ← Nat.add_assoc] at c2
end
end Go.Proofs.YtjgfjfjboimgdaaGreat
