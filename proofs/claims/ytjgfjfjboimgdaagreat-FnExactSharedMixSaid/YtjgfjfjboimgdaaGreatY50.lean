/- PmP MxL -/
import Derived.Test.YtjgfjfjboimgdaaGreatY20
namespace Go.Proofs.YtjgfjfjboimgdaaGreat
set_option linter.unusedSimpArgs false
set_option linter.unusedVariables false
set_option linter.unusedSectionVars false
open Go Go.RowKit
set_option maxHeartbeats 8000000
set_option maxRecDepth 20000
section
def plainMix (l : Ly) (x : Mx) : Mx := match l.ws with
  | [a, b, c] => if l.ok && x.ok && decide (x.c = a.c) then mixRun a b c x else Mx.zero
  | _ => Mx.zero
end
section
theorem mix_law {ws : List SMx} {x : SMx} {s : Int} (h : mixOk ws x s = true) : (mixR ws x s).m.ok = true ∧ seedOk (mixR ws x s).last = true ∧ joinMx (mixR ws x s).m = plainMix ⟨3, ws.map joinMx⟩ (joinMx x) := by
  obtain ⟨a, b, c, rfl, hx, hs, ha, hb, hc, a1, a2, b1, b2, c1, c2, e⟩ := mixOk_parts h
  have g := mix_good ha hb hc hx hs a1 a2 b1 b2 c1 c2
  rw [e]
  refine ⟨g.ok, g.seed, ?_⟩
  rw [g.join]
  obtain ⟨ja, ja1, ja2, _⟩ := join_smx ha
  obtain ⟨jb, jb1, jb2, _⟩ := join_smx hb
  obtain ⟨jc, jc1, jc2, _⟩ := join_smx hc
  obtain ⟨jx, jx1, jx2, _⟩ := join_smx hx
  show _ = (if (Ly.mk 3 [joinMx a, joinMx b, joinMx c]).ok && (joinMx x).ok && decide ((joinMx x).c = (joinMx a).c) then mixRun (joinMx a) (joinMx b) (joinMx c) (joinMx x) else Mx.zero)
  rw [if_pos]
  rw [Bool.and_eq_true, Bool.and_eq_true, decide_eq_true_eq]
  refine ⟨⟨?_, jx⟩, by omega⟩
  show (decide ((3 : Int) = 3) && mixFit (joinMx a) (joinMx b) (joinMx c)) = true
  simp only [mixFit, Bool.and_eq_true, decide_eq_true_eq]
  exact ⟨trivial, ⟨⟨⟨⟨ja, jb⟩, jc⟩, by omega⟩, by omega, by omega⟩, by omega, by omega⟩
end
end Go.Proofs.YtjgfjfjboimgdaaGreat
