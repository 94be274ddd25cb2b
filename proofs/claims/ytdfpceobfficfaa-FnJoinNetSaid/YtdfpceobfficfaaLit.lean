/-
  Slice literals of ints and loads from them at a place that is known by its bounds alone.
-/
import Derived.Test.YtdfpceobfficfaaDraw
import Derived.Great.BuildSlice
namespace Go.Proofs.Ytdfpceobfficfaa
set_option linter.unusedSimpArgs false
set_option linter.unusedVariables false
set_option linter.unusedSectionVars false
open Go Go.RowKit
set_option maxHeartbeats 8000000
set_option maxRecDepth 20000
section
variable {P : Program} {w0 w : World} {a : Act} {L : List Ent} {o : Oper} {ops : Array Oper} {rest : List Oper} {Q : Exit → Act → World → Prop}
/-- []int{..} -/
theorem wpList_lit (hgd : o.guard = none) (S : St w0 w L) (t : TypeId) (len : Nat) (parts : Array (Nat × Operand)) (ho : o.op = .buildSlice t len parts)
    (e : TypeId) (ht : P.underlying t = some (.slice e)) {z : Value} {bytes : Nat} (hi : (P.info? e).map (fun i => (i.zero, i.size, i.bytes)) = some (some z, 1, bytes))
    (hp : (parts.map fun (i, x) => (i, a.eval x)).toList = (((parts.map fun x => a.eval x.2).toList).zipIdx 0).map fun x => (x.2, x.1)) (h1 : ((parts.map fun x => a.eval x.2).toList).all (·.oneCell') = true) (hlen : len = parts.size) (hpos : Nat.blt 0 len = true) (hsmall : Nat.ble len 1000 = true)
    (h : ∀ g w' M, M = .box g e (parts.map fun x => a.eval x.2).toList :: L → St w0 w' M → wpList P ops Q rest (a.put o.dst (.slice (some ⟨g, 0, none⟩) len len)) w') : wpList P ops Q (o :: rest) a w := by
  obtain ⟨i, hi0, hz0, hz1, hz2⟩ := info_parts hi
  have h0 : 0 < len := by simpa using hpos
  have h2 : len ≤ 1000 := by simpa using hsmall
  refine Go.wpList_buildSlice hgd t e len parts ho (parts.map fun x => a.eval x.2).toList.toArray i z ht hi0 hz0 (by rw [hz1]; omega) (by rw [hz1]; omega) ?_ (h _ _ _ rfl (S.new e _))
  rw [hp, hz1]
  exact Great.fill_flat _ _ (fun v hv => by
    have := List.all_eq_true.1 h1 v hv
    cases v <;> first | rfl | cases this) (by simp [hlen])
/-- A load of an int from a known block at a place within it. -/
theorem wpList_load_lit (hgd : o.guard = none) (S : St w0 w L) (ty : TypeId) (ad : Operand) (ho : o.op = .load ty ad) (hty : P.underlying ty = some (.int .i64)) (p g : Nat) (t : TypeId) (cs : List Value) (i : Nat) (hp : At L p (.box g t cs))
    (had : a.eval ad = .pointer (some ⟨g, i, none⟩)) (hall : ∀ v ∈ cs, ∃ q : Int, v = .int .i64 q) (hi : i < cs.length)
    (h : ∀ q : Int, Value.int .i64 q ∈ cs → wpList P ops Q rest (a.put o.dst (.int .i64 q)) w) : wpList P ops Q (o :: rest) a w := by
  have hc := S.cell hp i
  rw [List.getElem?_eq_getElem hi] at hc
  obtain ⟨q, hq⟩ := hall _ (List.getElem_mem hi)
  have hq' : Value.int .i64 q ∈ cs := by rw [← hq]; exact List.getElem_mem hi
  rw [hq] at hc
  refine wpList_plain hgd fun _ hK => ?_
  unfold Oper.wp
  simp only [execOp, ho, had]
  simp [Instr.loadAt, Instr.sureAddr, loadVar, isAgg, Sem.run_bind, run_underlying hty, hc]
  exact hK _ _ (h q hq')
end
end Go.Proofs.Ytdfpceobfficfaa
