/-
  A layer, a matrix as arguments. No statement about the program is made here.
-/
import Derived.Test.YtkcahoojbigihaaLy
namespace Go.Proofs.Ytkcahoojbigihaa
set_option linter.unusedSimpArgs false
set_option linter.unusedVariables false
set_option linter.unusedSectionVars false
open Go Go.RowKit
section
open Go.ChangeShapes Go.WideShapes Go.ChangeAt
variable {H : Type} {enc : TypeId × Value → H} {P : Program} {w : World} {spare : Nat → Bool} {held : Bool}
/-- A layer, a matrix as arguments. -/
theorem open_ly {r : Reach} {b0 t : Nat} {v : Value} {d : DataW H} {p : List MemPlace} (hk : (isShape P t lyShp && isStructT P t) = true) (hv : Value.okWide P w r b0 t v) (h : DataW.Trod enc P w 0 spare held t v d p) :
    ∃ (l : Ly) (u : Value), v = .agg #[.int .i64 l.kind, u] ∧ SeesMs w u l.ws := by
  obtain ⟨cs, rfl, hr⟩ := shape_of hk hv h
  obtain ⟨k, u, ms, rfl, h1⟩ := reads_ly hr
  exact ⟨⟨k, ms⟩, u, rfl, h1⟩
theorem open_mx {r : Reach} {b0 t : Nat} {v : Value} {d : DataW H} {p : List MemPlace} (hk : (isShape P t mxShp && isStructT P t) = true) (hv : Value.okWide P w r b0 t v) (h : DataW.Trod enc P w 0 spare held t v d p) :
    ∃ (m : Mx) (u : Value), v = .agg #[.int .i64 m.r, .int .i64 m.c, u] ∧ Ints w u m.xs := by
  obtain ⟨cs, rfl, hr⟩ := shape_of hk hv h
  obtain ⟨r, c, u, xs, rfl, h1⟩ := reads_mx hr
  exact ⟨⟨r, c, xs⟩, u, rfl, h1⟩
end
end Go.Proofs.Ytkcahoojbigihaa
