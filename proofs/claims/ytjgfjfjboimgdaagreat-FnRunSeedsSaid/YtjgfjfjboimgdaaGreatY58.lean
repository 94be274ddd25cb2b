/- Reg RegB -/
import Derived.Test.YtjgfjfjboimgdaaGreatY34
import Derived.Test.YtjgfjfjboimgdaaGreatY38
namespace Go.Proofs.YtjgfjfjboimgdaaGreat
set_option linter.unusedSimpArgs false
set_option linter.unusedVariables false
set_option linter.unusedSectionVars false
open Go Go.RowKit
set_option maxHeartbeats 8000000
set_option maxRecDepth 20000
section
section
variable {P : Program} {ops : Array Oper} {Q : Exit → Act → World → Prop} {S : World → Prop}
theorem qAsX {i : Nat} {o : Oper} {ro : List Oper} {t : Tree} {a a' : Act} {w : World} (k : wpTree P ops Q S t a' w) (hS : S w := by (first | exact S | (refine S.sub (subL HL0 HL ?_); (repeat (first | exact List.Sublist.refl _ | exact List.nil_sublist _ | exact List.sublist_append_left _ _ | apply List.Sublist.cons_cons | apply List.Sublist.cons)); done))) (ho : ops.toList.drop i = o :: ro := by exact rfl) (hw : Region.wanted o (yielded ops a.tmps) = false := by exact rfl) (ha : a.put o.dst undef = a' := by ((try simp only [Act.put, qP0, qP1, qP2]); exact rfl)) : wpTree P ops Q S (.act i t .stop) a w := tree_actSkip ho hw hS (ha ▸ k) tree_stop
end
end
section
namespace RB
section
variable {P : Program} {ops : Array Oper} {Q : Exit → Act → World → Prop} {S : World → Prop}
theorem qAsX {i : Nat} {o : Oper} {ro : List Oper} {t : Tree} {a a' : Act} {w : World} (k : wpTree P ops Q S t a' w) (hS : S w := by (first | exact S | (refine S.sub (subL HL0 HL ?_); (repeat (first | exact List.Sublist.refl _ | exact List.nil_sublist _ | exact List.sublist_append_left _ _ | apply List.Sublist.cons_cons | apply List.Sublist.cons)); done))) (ho : ops.toList.drop i = o :: ro := by exact rfl) (hw : Region.wanted o (yielded ops a.tmps) = false := by exact rfl) (ha : a.put o.dst undef = a' := by ((try simp only [Act.put, qP0, qP1, qP2]); exact rfl)) : wpTree P ops Q S (.act i t .stop) a w := tree_actSkip ho hw hS (ha ▸ k) tree_stop
end
end RB
end
end Go.Proofs.YtjgfjfjboimgdaaGreat
