/-
  Contracts: matrices turned.
-/
import Derived.Test.YtiiijfhacaomdaaMatO
import Derived.Test.YtiiijfhacaomdaaLit
namespace Go.Proofs.Ytiiijfhacaomdaa
set_option linter.unusedSimpArgs false
set_option linter.unusedVariables false
set_option linter.unusedSectionVars false
open Go Go.RowKit
set_option maxHeartbeats 8000000
set_option maxRecDepth 20000
section
variable {P : Program} {w0 w : World} {a : Act} {L : List Ent} {o : Oper} {K : Act → World → Prop} {Q : Exit → Act → World → Prop}
theorem wp_lit1 (S : St w0 w L) (t : TypeId) (x : Operand) (ho : o.op = .buildSlice t 1 #[(0, x)])
    (e : TypeId) (ht : P.underlying t = some (.slice e)) {z : Value} {bytes : Nat} (hi : (P.info? e).map (fun i => (i.zero, i.size, i.bytes)) = some (some z, 1, bytes))
    (c : Int) (hx : a.eval x = .int .i64 c)
    (h : ∀ g w' M, M = .box g e [.int .i64 c] :: L → St w0 w' M → K (a.put o.dst (.slice (some ⟨g, 0, none⟩) 1 1)) w') : o.wp P a w K Q := by
  obtain ⟨i, hi0, hz0, hz1, hz2⟩ := info_parts hi
  refine Go.wp_buildSlice t e 1 _ ho #[.int .i64 c] i z ht hi0 hz0 (by rw [hz1]; omega) (by rw [hz1]; omega) ?_ (h _ _ _ rfl (S.new e _))
  rw [hz1, Array.toList_map]
  show Instr.fill _ _ [(0, a.eval x)] = _
  rw [hx]
  show Instr.fill _ _ (([Value.int .i64 c].zipIdx 0).map fun x => (x.2, x.1)) = _
  exact Great.fill_flat _ _ (fun v hv => by rw [List.mem_singleton.1 hv]; rfl) (by simp)
theorem St.nilMx (S : St w0 w L) (t : TypeId) : St w0 w [.row t 1 (.slice none 0 0) 0 []] := (S.nilRow t 1).sub (.cons_cons _ (List.nil_sublist _))
/-- A row that is not empty lies in a block. -/
theorem St.rowAt {p size n : Nat} {t : TypeId} {v : Value} {xs : List Value} (S : St w0 w L) (h : At L p (.row t size v n xs)) (hn : 0 < n) : ∃ g cap, v = .slice (some ⟨g, 0, none⟩) n cap ∧ n ≤ cap ∧ cap ≤ maxLen := by
  rcases S.rowShape h with ⟨_, h0⟩ | h
  · omega
  · exact h
end
theorem wrap_nat {x : Int} {n : Nat} (h : x = n) (hn : n ≤ 1000000000) : IntKind.i64.wrap x = (n : Int) := by
  rw [h, IntKind.wrap_i64]; omega
end Go.Proofs.Ytiiijfhacaomdaa
