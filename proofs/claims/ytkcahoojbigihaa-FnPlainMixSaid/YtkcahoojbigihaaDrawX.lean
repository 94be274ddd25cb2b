/-
  Contracts of what draws matrices: sides.
-/
import Derived.Test.YtkcahoojbigihaaDrawS
import Derived.Test.YtkcahoojbigihaaMatT
namespace Go.Proofs.Ytkcahoojbigihaa
set_option linter.unusedSimpArgs false
set_option linter.unusedVariables false
set_option linter.unusedSectionVars false
open Go Go.RowKit
set_option maxHeartbeats 8000000
set_option maxRecDepth 20000
section
variable {P : Program} {w0 w : World} {a : Act} {L : List Ent} {o : Oper} {K : Act → World → Prop} {Q : Exit → Act → World → Prop}
theorem wp_lit2i (S : St w0 w L) (t : TypeId) (x y : Operand) (ho : o.op = .buildSlice t 2 #[(0, x), (1, y)])
    (e : TypeId) (ht : P.underlying t = some (.slice e)) {z : Value} {bytes : Nat} (hi : (P.info? e).map (fun i => (i.zero, i.size, i.bytes)) = some (some z, 1, bytes))
    (c d : Int) (hx : a.eval x = .int .i64 c) (hy : a.eval y = .int .i64 d)
    (h : ∀ g w' M, M = .box g e [.int .i64 c, .int .i64 d] :: L → St w0 w' M → K (a.put o.dst (.slice (some ⟨g, 0, none⟩) 2 2)) w') : o.wp P a w K Q := by
  obtain ⟨i, hi0, hz0, hz1, hz2⟩ := info_parts hi
  refine Go.wp_buildSlice t e 2 _ ho #[.int .i64 c, .int .i64 d] i z ht hi0 hz0 (by rw [hz1]; omega) (by rw [hz1]; omega) ?_ (h _ _ _ rfl (S.new e _))
  rw [hz1, Array.toList_map]
  show Instr.fill _ _ [(0, a.eval x), (1, a.eval y)] = _
  rw [hx, hy]
  show Instr.fill _ _ (([Value.int .i64 c, .int .i64 d].zipIdx 0).map fun x => (x.2, x.1)) = _
  exact Great.fill_flat _ _ (fun v hv => by
    rcases List.mem_cons.1 hv with rfl | hv
    · rfl
    · rw [List.mem_singleton.1 hv]; rfl) (by simp)
end
theorem quo3 {y : Int} (h : 0 ≤ y ∧ y < 4) : IntKind.i64.wrap (Int.tdiv y 3) = 0 ∨ IntKind.i64.wrap (Int.tdiv y 3) = 1 := by
  rw [Int.tdiv_eq_ediv_of_nonneg h.1, IntKind.wrap_i64]
  omega
end Go.Proofs.Ytkcahoojbigihaa
