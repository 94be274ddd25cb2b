/- Sl SlP RuG -/
import Derived.Test.YtjgfjfjboimgdaaGreatY28
import Derived.Test.YtjgfjfjboimgdaaGreatY31
import Derived.Test.YtjgfjfjboimgdaaGreatY50
import Derived.Test.YtjgfjfjboimgdaaGreatY53
namespace Go.Proofs.YtjgfjfjboimgdaaGreat
set_option linter.unusedSimpArgs false
set_option linter.unusedVariables false
set_option linter.unusedSectionVars false
open Go Go.RowKit
set_option maxHeartbeats 8000000
set_option maxRecDepth 20000
section
section
open Go.ChangeShapes Go.WideShapes Go.ChangeAt
variable {H : Type} {enc : TypeId × Value → H} {P : Program} {w : World} {spare : Nat → Bool} {held : Bool}
theorem open_sms {r : Reach} {b0 t e : Nat} {v : Value} {d : DataW H} {p : List MemPlace} (hk : (isSliceT P t e && (P.cellsOf t == 1) && decide (shapeOf P 12 t = some (.slice 6 smxShp))) = true) (hv : Value.okWide P w r b0 t v) (h : DataW.Trod enc P w 0 spare held t v d p) :
    ∃ ms, SeesSMs w v ms := by
  obtain ⟨v', ms, e, hl⟩ := reads_sms (open_row hk hv h)
  injection e with e
  exact ⟨ms, e ▸ hl⟩
end
end
section
theorem szSMs_small {ms : List SMx} {k : Nat} (h : 0 ≤ szSMs ms k) : ms.length ≤ k ∧ ∀ m ∈ ms, SMSmall k m := by
  obtain ⟨h1, h2⟩ := szSMs_each h
  exact ⟨by omega, fun m hm => by have := h2 m hm; exact ⟨by omega, by omega⟩⟩
end
section
theorem mixR_few (ms : List SMx) (x : SMx) (s : Int) : (mixR ms x s).m.a.xs.length ≤ 25 ∧ (mixR ms x s).m.b.xs.length ≤ 25 ∧ (mixR ms x s).os.length ≤ 600 := by
  cases h : mixOk ms x s with
  | false => rw [mixR_not h]; exact ⟨Nat.zero_le _, Nat.zero_le _, Nat.zero_le _⟩
  | true =>
    obtain ⟨h1, h2⟩ := ok_few (mix_law h).1
    obtain ⟨a, b, c, rfl, _, _, _, _, _, _, _, _, _, _, _, e⟩ := mixOk_parts h
    refine ⟨h1, h2, ?_⟩
    rw [e]
    exact step_few ⟨3, [a, b, c]⟩ x s
end
end Go.Proofs.YtjgfjfjboimgdaaGreat
