/-
  What a layer of mixing makes of a matrix: the plain function for all arguments.
-/
import Derived.Test.YtdfpceobfficfaaMxP
import Derived.Test.YtdfpceobfficfaaLyP
namespace Go.Proofs.Ytdfpceobfficfaa
set_option linter.unusedSimpArgs false
set_option linter.unusedVariables false
set_option linter.unusedSectionVars false
open Go Go.RowKit
def plainMix (l : Ly) (x : Mx) : Mx := match l.ws with
  | [a, b, c] => if l.ok && x.ok && decide (x.c = a.c) then mixRun a b c x else Mx.zero
  | _ => Mx.zero
theorem mix_parts {a b c : Mx} (h : mixFit a b c = true) : ∃ (Y : Nat) (xa xb xc : List Int), 1 ≤ Y ∧ Y ≤ 5 ∧ a = ⟨Y, Y, xa⟩ ∧ b = ⟨Y, Y, xb⟩ ∧ c = ⟨Y, Y, xc⟩ ∧ xa.length = Y * Y ∧ xb.length = Y * Y ∧ xc.length = Y * Y ∧ xa.all rv = true ∧ xb.all rv = true ∧ xc.all rv = true := by
  simp only [mixFit, Bool.and_eq_true, decide_eq_true_eq] at h
  obtain ⟨⟨⟨⟨⟨ha, hb⟩, hc⟩, h1⟩, h2, h3⟩, h4, h5⟩ := h
  obtain ⟨ra, ca, xa⟩ := a
  obtain ⟨rb, cb, xb⟩ := b
  obtain ⟨rc, cc, xc⟩ := c
  dsimp only at h1 h2 h3 h4 h5
  subst h2 h3 h4 h5 h1
  obtain ⟨R, C, N, e, r1, r2, c1, c2, n1, n2, _, n3⟩ := Mx.ok_nat ha
  obtain ⟨R', C', N', e', _, _, _, _, n1', n2', _, n3'⟩ := Mx.ok_nat hb
  obtain ⟨R2, C2, N2, e2, _, _, _, _, n4, n5, _, n6⟩ := Mx.ok_nat hc
  dsimp only at e e' e2 n2 n3 n2' n3' n5 n6
  simp only [Mx.mk.injEq, and_true] at e e' e2
  obtain rfl : C = R := by omega
  obtain rfl : R' = C := by omega
  obtain rfl : C' = R' := by omega
  obtain rfl : R2 = C' := by omega
  obtain rfl : C2 = R2 := by omega
  refine ⟨C2, xa, xb, xc, r1, r2, ?_, ?_, ?_, by omega, by omega, by omega, n3, n3', n6⟩
  all_goals
    simp only [Mx.mk.injEq, and_true]
    omega
theorem plainMix_bad {l : Ly} {x : Mx} (h : l.ok = false) : plainMix l x = Mx.zero := by
  unfold plainMix
  split
  · rw [h]; rfl
  · rfl
theorem plainMix_x {l : Ly} {x : Mx} (h : x.ok = false) : plainMix l x = Mx.zero := by
  unfold plainMix
  split
  · rw [h, Bool.and_false]; rfl
  · rfl
end Go.Proofs.Ytdfpceobfficfaa
