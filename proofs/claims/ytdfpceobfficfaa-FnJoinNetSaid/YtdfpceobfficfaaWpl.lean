/-
  Literals of one matrix or shared matrix, and appending them, as steps of any order.
-/
import Derived.Test.YtdfpceobfficfaaSlM
namespace Go.Proofs.Ytdfpceobfficfaa
set_option linter.unusedSimpArgs false
set_option linter.unusedVariables false
set_option linter.unusedSectionVars false
open Go Go.RowKit
set_option maxHeartbeats 8000000
set_option maxRecDepth 20000
section
variable {P : Program} {w0 w : World} {a : Act} {L : List Ent} {o : Oper} {K : Act → World → Prop} {Q : Exit → Act → World → Prop}
theorem wp_litX (S : St w0 w L) (t : TypeId) (x : Operand) (ho : o.op = .buildSlice t 1 #[(0, x)])
    (e : TypeId) (ht : P.underlying t = some (.slice e)) {z : Value} {bytes : Nat} (hi : (P.info? e).map (fun i => (i.zero, i.size, i.bytes)) = some (some z, 3, bytes))
    (c0 c1 c2 : Value) (hx : a.eval x = .agg #[c0, c1, c2])
    (h : ∀ g w' M, M = .box g e [c0, c1, c2] :: L → St w0 w' M → K (a.put o.dst (.slice (some ⟨g, 0, none⟩) 1 1)) w') : o.wp P a w K Q := by
  obtain ⟨i, hi0, hz0, hz1, hz2⟩ := info_parts hi
  refine Go.wp_buildSlice t e 1 _ ho #[c0, c1, c2] i z ht hi0 hz0 (by rw [hz1]; omega) (by rw [hz1]; omega) ?_ (h _ _ _ rfl (S.new e _))
  rw [hz1, Array.toList_map]
  show Instr.fill _ _ [(0, a.eval x)] = _
  rw [hx]
  exact fil3 _ (by simp) _ _ _
theorem wp_litZ (S : St w0 w L) (t : TypeId) (x : Operand) (ho : o.op = .buildSlice t 1 #[(0, x)])
    (e : TypeId) (ht : P.underlying t = some (.slice e)) {z : Value} {bytes : Nat} (hi : (P.info? e).map (fun i => (i.zero, i.size, i.bytes)) = some (some z, 6, bytes))
    (c0 c1 c2 c3 c4 c5 : Value) (hx : a.eval x = .agg #[c0, c1, c2, c3, c4, c5])
    (h : ∀ g w' M, M = .box g e [c0, c1, c2, c3, c4, c5] :: L → St w0 w' M → K (a.put o.dst (.slice (some ⟨g, 0, none⟩) 1 1)) w') : o.wp P a w K Q := by
  obtain ⟨i, hi0, hz0, hz1, hz2⟩ := info_parts hi
  refine Go.wp_buildSlice t e 1 _ ho #[c0, c1, c2, c3, c4, c5] i z ht hi0 hz0 (by rw [hz1]; omega) (by rw [hz1]; omega) ?_ (h _ _ _ rfl (S.new e _))
  rw [hz1, Array.toList_map]
  show Instr.fill _ _ [(0, a.eval x)] = _
  rw [hx]
  exact fil6 _ (by simp) _ _ _ _ _ _
theorem wp_append_boxB (S : St w0 w L) (s x : Operand) (t : TypeId) (ho : o.op = .call { callee := .builtin .append, args := #[s, x], argTypes := #[t, t] })
    (e : TypeId) (z : Value) (size bytes : Nat) (ht : P.underlying t = some (.slice e)) (hi : (P.info? e).map (fun i => (i.zero, i.size, i.bytes)) = some (some z, size, bytes))
    (hzs : z.cells.size = size) (hsz : 0 < size) (p n : Nat) (v : Value) (cs : List Value) (hs : a.eval s = v) (hp : At L p (.row e size v n cs)) (hn2 : n ≤ 2000000)
    (q g' m c : Nat) (e' : TypeId) (news : List Value) (hx : a.eval x = .slice (some ⟨g', 0, none⟩) m c) (hq : At L q (.box g' e' news)) (hl : news.length = m * size) (h1 : news.all (·.oneCell') = true)
    (hm2 : Nat.ble m 1000 = true) (hb2 : Nat.ble bytes 1000 = true)
    (h : ∀ v' w' M, M = L.set p (.row e size v' (n + m) (cs ++ news)) → St w0 w' M → K (a.put o.dst v') w') : o.wp P a w K Q := by
  have hm3 : m ≤ 1000 := by simpa using hm2
  have hb3 : bytes ≤ 1000 := by simpa using hb2
  refine wp_append S s x t ho p e z size bytes ht hi hzs hsz v n cs hs hp ⟨g', 0, none⟩ m c news hx hl (news_box S hq) h1 (by simp [maxLen]; omega) ?_ h
  have : (n + m) * bytes ≤ 2001000 * 1000 := Nat.mul_le_mul (by omega) hb3
  omega
end
end Go.Proofs.Ytdfpceobfficfaa
