/-
  An argument that is bytes.
-/
import Derived.Test.YtkcahoojbigihaaDraw
import Derived.Test.YtkcahoojbigihaaLaw
namespace Go.Proofs.Ytkcahoojbigihaa
set_option linter.unusedSimpArgs false
set_option linter.unusedVariables false
set_option linter.unusedSectionVars false
open Go Go.RowKit Go.ChangeShapes Go.WideShapes Go.ChangeAt
def isByteT (P : Program) (t : Nat) : Bool := match P.underlying t with | some (.int .u8) => decide (P.cellsOf t = 1) | _ => false
section
variable {H : Type} {enc : TypeId × Value → H} {P : Program} {w : World} {spare : Nat → Bool} {held : Bool}
theorem open_bytes {r : Reach} {b0 t e : Nat} {v : Value} {d : DataW H} {p : List MemPlace} (hk : (isSliceT P t e && isByteT P e) = true) (hv : Value.okWide P w r b0 t v) (h : DataW.Trod enc P w 0 spare held t v d p) : Bytes w v := by
  simp only [Bool.and_eq_true] at hk
  obtain ⟨hs, hf⟩ := hk
  unfold isByteT at hf
  split at hf
  rotate_left
  · cases hf
  rename_i hu8
  have hc : P.cellsOf e = 1 := by simpa using hf
  unfold isSliceT at hs
  split at hs
  rotate_left
  · cases hs
  rename_i e' hu
  have he : e' = e := by simpa using hs
  subst he
  obtain ⟨A, len, cap, rfl⟩ := okWide_slice hu hv
  obtain ⟨fuel, hf'⟩ := h
  rcases Go.Deep.open_slice hu hf' with ⟨h0, _⟩ | ⟨a, len', cap', m, k, D, Pl, h0, _, hl, hm, hmm, _, hi⟩
  · have h0' : Value.slice A len cap = .slice none 0 0 := by simpa [Value.cells] using h0
    injection h0' with h1 h2 h3
    subst h1; subst h2; subst h3
    exact ⟨none, 0, 0, rfl, Nat.le_refl _, by simp [maxLen], fun h => absurd h (by omega)⟩
  · have h0' : Value.slice A len cap = .slice (some a) len' cap' := by simpa [Value.cells] using h0
    injection h0' with h1 h2 h3
    subst h1; subst h2; subst h3
    have hml : len ≤ m := by rw [hmm]; split <;> omega
    have key : ∀ q, q < len → ∃ z : Int, 0 ≤ z ∧ z < 256 ∧ w.cell? (a.add q) = some (.int .u8 z) := by
      intro q hq
      obtain ⟨cs', hcs, ht⟩ := hi q (by omega)
      obtain ⟨z, rfl, _, hw⟩ := DataW.trod_int hu8 ht
      obtain ⟨_, _, hcell⟩ := World.cells?_some hcs
      have h1 := hcell 0 (by rw [hc]; omega)
      rw [addr_add_add, hc, Nat.mul_one, Nat.add_zero] at h1
      have hz : 0 ≤ z ∧ z ≤ 255 := by simpa [Lit.wf, IntKind.min, IntKind.max, IntKind.signed, IntKind.bits] using hw
      exact ⟨z, hz.1, by omega, h1⟩
    refine ⟨some a, len, cap, rfl, hl, hm, fun hlen => ?_⟩
    obtain ⟨z, _, _, h00⟩ := key 0 hlen
    have e0 : a.add 0 = a := by unfold Addr.add; simp
    rw [e0] at h00
    have hsp := cell_spot h00
    obtain ⟨b, off, spot⟩ := a
    simp only at hsp
    subst hsp
    refine ⟨b, off, rfl, World.block_lt_of_cell? w _ h00, fun j hj => ?_⟩
    obtain ⟨z, z0, z1, hz⟩ := key j hj
    have e : (⟨b, off, none⟩ : Addr).add j = ⟨b, off + j, none⟩ := by unfold Addr.add; split <;> simp_all
    exact ⟨z, z0, z1, by rwa [e] at hz⟩
end
end Go.Proofs.Ytkcahoojbigihaa
