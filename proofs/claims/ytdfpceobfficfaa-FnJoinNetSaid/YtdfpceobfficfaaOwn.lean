/-
  Slices that are made empty with room, a slice's front and rest.
-/
import Derived.Test.YtdfpceobfficfaaRow
import Derived.Great.BuildSlice
namespace Go.Proofs.Ytdfpceobfficfaa
set_option linter.unusedSimpArgs false
set_option linter.unusedVariables false
set_option linter.unusedSectionVars false
open Go Go.RowKit
set_option maxHeartbeats 1000000
theorem size4 : ∀ {l : List Value}, l.length = 4 → ∃ a b c d, l = [a, b, c, d]
  | [a, b, c, d], _ => ⟨a, b, c, d, rfl⟩
theorem size6 : ∀ {l : List Value}, l.length = 6 → ∃ a b c d e f, l = [a, b, c, d, e, f]
  | [a, b, c, d, e, f], _ => ⟨a, b, c, d, e, f, rfl⟩
theorem size2 : ∀ {l : List Value}, l.length = 2 → ∃ a b, l = [a, b]
  | [a, b], _ => ⟨a, b, rfl⟩
theorem fill4 (C : Array Value) (hC : C.size = 4) (a b c d : Value) : Instr.fill (fun i => some (i * 4, 4)) C [(0, .agg #[a, b, c, d])] = some #[a, b, c, d] := by
  obtain ⟨l⟩ := C
  obtain ⟨x0, x1, x2, x3, rfl⟩ := size4 (by simpa using hC)
  simp [Instr.fill, Value.cells]
theorem fill2 (C : Array Value) (hC : C.size = 2) (a b : Value) : Instr.fill (fun i => some (i * 2, 2)) C [(0, .agg #[a, b])] = some #[a, b] := by
  obtain ⟨l⟩ := C
  obtain ⟨x0, x1, rfl⟩ := size2 (by simpa using hC)
  simp [Instr.fill, Value.cells]
theorem fill33 (C : Array Value) (hC : C.size = 6) (a b c d e f : Value) : Instr.fill (fun i => some (i * 3, 3)) C [(0, .agg #[a, b, c]), (1, .agg #[d, e, f])] = some #[a, b, c, d, e, f] := by
  obtain ⟨l⟩ := C
  obtain ⟨x0, x1, x2, x3, x4, x5, rfl⟩ := size6 (by simpa using hC)
  simp [Instr.fill, Value.cells]
section
variable {P : Program} {w0 w : World} {a : Act} {L : List Ent} {o : Oper} {ops : Array Oper} {rest : List Oper} {Q : Exit → Act → World → Prop}
/-- make([]T, 0, n) -/
theorem wpList_make0 (hgd : o.guard = none) (S : St w0 w L) (l c : Operand) (t : TypeId) (ho : o.op = .makeSlice t l c)
    (e : TypeId) (z : Value) (size bytes : Nat) (ht : P.underlying t = some (.slice e)) (hi : (P.info? e).map (fun i => (i.zero, i.size, i.bytes)) = some (some z, size, bytes))
    (kl kc : IntKind) (N : Int) (n : Nat) (hl : a.eval l = .int kl 0) (hc : a.eval c = .int kc N) (hN : N = (n : Int)) (hb : bytes * n ≤ 281474976710656) (hm : n ≤ maxLen)
    (h : ∀ g w' M, M = .row e size (.slice (some ⟨g, 0, none⟩) 0 n) 0 [] :: L → St w0 w' M → wpList P ops Q rest (a.put o.dst (.slice (some ⟨g, 0, none⟩) 0 n)) w') : wpList P ops Q (o :: rest) a w := by
  obtain ⟨i, hi0, hz0, hz1, hz2⟩ := info_parts hi
  subst hz2
  refine wpList_make_own w hgd l c t ho w.heap.size e i z size ht hi0 hz0 hz1 kl kc N n hl hc hN hb hm (Nat.le_refl _) fun w' hown hg => h w.heap.size w' _ rfl ?_
  have hbl : Below w.heap.size w w' := ⟨hg.os, hg.tape, hg.output, hg.size, fun k hk => hg.block k hk (by simp)⟩
  have T : St w w' [.row e size (.slice (some ⟨w.heap.size, 0, none⟩) 0 n) 0 []] :=
    ⟨hbl, fun e' he => by rw [List.mem_singleton.1 he]; exact hown, List.pairwise_singleton _ _⟩
  exact S.call T
/-- A literal of structs. -/
theorem wpList_litS (hgd : o.guard = none) (S : St w0 w L) (t : TypeId) (len : Nat) (parts : Array (Nat × Operand)) (ho : o.op = .buildSlice t len parts)
    (e : TypeId) (ht : P.underlying t = some (.slice e)) {z : Value} {size bytes : Nat} (hi : (P.info? e).map (fun i => (i.zero, i.size, i.bytes)) = some (some z, size, bytes))
    (cells : Array Value) (hf : ∀ C : Array Value, C.size = len * size → Instr.fill (fun i => some (i * size, size)) C (parts.toList.map fun (i, x) => (i, a.eval x)) = some cells)
    (hpos : 0 < len * size) (hsmall : len * size ≤ 1000)
    (h : ∀ g w' M, M = .box g e cells.toList :: L → St w0 w' M → wpList P ops Q rest (a.put o.dst (.slice (some ⟨g, 0, none⟩) len len)) w') : wpList P ops Q (o :: rest) a w := by
  obtain ⟨i, hi0, hz0, hz1, hz2⟩ := info_parts hi
  refine Go.wpList_buildSlice hgd t e len parts ho cells i z ht hi0 hz0 (by rw [hz1]; omega) (by rw [hz1]; omega) (by rw [hz1, Array.toList_map]; exact hf _ (by simp)) (h _ _ _ rfl (S.new e _))
theorem wpList_lit4 (hgd : o.guard = none) (S : St w0 w L) (t : TypeId) (x : Operand) (ho : o.op = .buildSlice t 1 #[(0, x)])
    (e : TypeId) (ht : P.underlying t = some (.slice e)) {z : Value} {bytes : Nat} (hi : (P.info? e).map (fun i => (i.zero, i.size, i.bytes)) = some (some z, 4, bytes))
    (c0 c1 c2 c3 : Value) (hx : a.eval x = .agg #[c0, c1, c2, c3])
    (h : ∀ g w' M, M = .box g e [c0, c1, c2, c3] :: L → St w0 w' M → wpList P ops Q rest (a.put o.dst (.slice (some ⟨g, 0, none⟩) 1 1)) w') : wpList P ops Q (o :: rest) a w :=
  wpList_litS hgd S t 1 _ ho e ht hi #[c0, c1, c2, c3] (fun C hC => by
    show Instr.fill _ C [(0, a.eval x)] = _
    rw [hx]; exact fill4 C hC _ _ _ _) (by omega) (by omega) h
theorem wpList_lit2 (hgd : o.guard = none) (S : St w0 w L) (t : TypeId) (x : Operand) (ho : o.op = .buildSlice t 1 #[(0, x)])
    (e : TypeId) (ht : P.underlying t = some (.slice e)) {z : Value} {bytes : Nat} (hi : (P.info? e).map (fun i => (i.zero, i.size, i.bytes)) = some (some z, 2, bytes))
    (c0 c1 : Value) (hx : a.eval x = .agg #[c0, c1])
    (h : ∀ g w' M, M = .box g e [c0, c1] :: L → St w0 w' M → wpList P ops Q rest (a.put o.dst (.slice (some ⟨g, 0, none⟩) 1 1)) w') : wpList P ops Q (o :: rest) a w :=
  wpList_litS hgd S t 1 _ ho e ht hi #[c0, c1] (fun C hC => by
    show Instr.fill _ C [(0, a.eval x)] = _
    rw [hx]; exact fill2 C hC _ _) (by omega) (by omega) h
theorem wpList_lit33 (hgd : o.guard = none) (S : St w0 w L) (t : TypeId) (x y : Operand) (ho : o.op = .buildSlice t 2 #[(0, x), (1, y)])
    (e : TypeId) (ht : P.underlying t = some (.slice e)) {z : Value} {bytes : Nat} (hi : (P.info? e).map (fun i => (i.zero, i.size, i.bytes)) = some (some z, 3, bytes))
    (c0 c1 c2 d0 d1 d2 : Value) (hx : a.eval x = .agg #[c0, c1, c2]) (hy : a.eval y = .agg #[d0, d1, d2])
    (h : ∀ g w' M, M = .box g e [c0, c1, c2, d0, d1, d2] :: L → St w0 w' M → wpList P ops Q rest (a.put o.dst (.slice (some ⟨g, 0, none⟩) 2 2)) w') : wpList P ops Q (o :: rest) a w :=
  wpList_litS hgd S t 2 _ ho e ht hi #[c0, c1, c2, d0, d1, d2] (fun C hC => by
    show Instr.fill _ C [(0, a.eval x), (1, a.eval y)] = _
    rw [hx, hy]; exact fill33 C hC _ _ _ _ _ _) (by omega) (by omega) h
/-- append of a literal's elements onto a literal -/
theorem wpList_append_lit (hgd : o.guard = none) (S : St w0 w L) (s x : Operand) (t : TypeId) (ho : o.op = .call { callee := .builtin .append, args := #[s, x], argTypes := #[t, t] })
    (e : TypeId) (z : Value) (size bytes : Nat) (ht : P.underlying t = some (.slice e)) (hi : (P.info? e).map (fun i => (i.zero, i.size, i.bytes)) = some (some z, size, bytes))
    (hzs : z.cells.size = size) (hsz : 0 < size) (p g n : Nat) (cs : List Value) (hs : a.eval s = .slice (some ⟨g, 0, none⟩) n n) (hp : At L p (.box g e cs)) (hn : cs.length = n * size) (hn2 : Nat.ble n 1000 = true)
    (q g' m c : Nat) (e' : TypeId) (news : List Value) (hx : a.eval x = .slice (some ⟨g', 0, none⟩) m c) (hq : At L q (.box g' e' news)) (hl : news.length = m * size) (h1 : news.all (·.oneCell') = true)
    (hm2 : Nat.ble m 1000 = true) (hb2 : Nat.ble bytes 1000 = true)
    (h : ∀ v' w' M, M = L.set p (.row e size v' (n + m) (cs ++ news)) → St w0 w' M → wpList P ops Q rest (a.put o.dst v') w') : wpList P ops Q (o :: rest) a w := by
  have hn3 : n ≤ 1000 := by simpa using hn2
  have hm3 : m ≤ 1000 := by simpa using hm2
  have hb3 : bytes ≤ 1000 := by simpa using hb2
  have S' := S.asRow (size := size) (n := n) hp.get hn (by simp [maxLen]; omega)
  have hlt : p < L.length := (List.getElem?_eq_some_iff.1 hp.get).1
  refine wpList_append hgd S' s x t ho p e z size bytes ht hi hzs hsz (.slice (some ⟨g, 0, none⟩) n n) n cs hs (by unfold At; rw [List.getElem?_set_self hlt]) ⟨g', 0, none⟩ m c news hx hl (news_box S hq) h1 (by simp [maxLen]; omega) ?_ fun v' w' M hM T => h v' w' M (by rw [hM, List.set_set]) T
  have : (n + m) * bytes ≤ 2000 * 1000 := Nat.mul_le_mul (by omega) hb3
  omega
/-- append of a literal's elements onto a row -/
theorem wpList_append_box (hgd : o.guard = none) (S : St w0 w L) (s x : Operand) (t : TypeId) (ho : o.op = .call { callee := .builtin .append, args := #[s, x], argTypes := #[t, t] })
    (e : TypeId) (z : Value) (size bytes : Nat) (ht : P.underlying t = some (.slice e)) (hi : (P.info? e).map (fun i => (i.zero, i.size, i.bytes)) = some (some z, size, bytes))
    (hzs : z.cells.size = size) (hsz : 0 < size) (p n : Nat) (v : Value) (cs : List Value) (hs : a.eval s = v) (hp : At L p (.row e size v n cs)) (hn2 : n ≤ 1000000)
    (q g' m c : Nat) (e' : TypeId) (news : List Value) (hx : a.eval x = .slice (some ⟨g', 0, none⟩) m c) (hq : At L q (.box g' e' news)) (hl : news.length = m * size) (h1 : news.all (·.oneCell') = true)
    (hm2 : Nat.ble m 1000 = true) (hb2 : Nat.ble bytes 1000 = true)
    (h : ∀ v' w' M, M = L.set p (.row e size v' (n + m) (cs ++ news)) → St w0 w' M → wpList P ops Q rest (a.put o.dst v') w') : wpList P ops Q (o :: rest) a w := by
  have hm3 : m ≤ 1000 := by simpa using hm2
  have hb3 : bytes ≤ 1000 := by simpa using hb2
  refine wpList_append hgd S s x t ho p e z size bytes ht hi hzs hsz v n cs hs hp ⟨g', 0, none⟩ m c news hx hl (news_box S hq) h1 (by simp [maxLen]; omega) ?_ h
  have : (n + m) * bytes ≤ 1001000 * 1000 := Nat.mul_le_mul (by omega) hb3
  omega
/-- The same as a step of any order. -/
theorem wp_append_box {K : Act → World → Prop} (S : St w0 w L) (s x : Operand) (t : TypeId) (ho : o.op = .call { callee := .builtin .append, args := #[s, x], argTypes := #[t, t] })
    (e : TypeId) (z : Value) (size bytes : Nat) (ht : P.underlying t = some (.slice e)) (hi : (P.info? e).map (fun i => (i.zero, i.size, i.bytes)) = some (some z, size, bytes))
    (hzs : z.cells.size = size) (hsz : 0 < size) (p n : Nat) (v : Value) (cs : List Value) (hs : a.eval s = v) (hp : At L p (.row e size v n cs)) (hn2 : n ≤ 1000000)
    (q g' m c : Nat) (e' : TypeId) (news : List Value) (hx : a.eval x = .slice (some ⟨g', 0, none⟩) m c) (hq : At L q (.box g' e' news)) (hl : news.length = m * size) (h1 : news.all (·.oneCell') = true)
    (hm2 : Nat.ble m 1000 = true) (hb2 : Nat.ble bytes 1000 = true)
    (h : ∀ v' w' M, M = L.set p (.row e size v' (n + m) (cs ++ news)) → St w0 w' M → K (a.put o.dst v') w') : o.wp P a w K Q := by
  have hm3 : m ≤ 1000 := by simpa using hm2
  have hb3 : bytes ≤ 1000 := by simpa using hb2
  refine wp_append S s x t ho p e z size bytes ht hi hzs hsz v n cs hs hp ⟨g', 0, none⟩ m c news hx hl (news_box S hq) h1 (by simp [maxLen]; omega) ?_ h
  have : (n + m) * bytes ≤ 1001000 * 1000 := Nat.mul_le_mul (by omega) hb3
  omega
end
section
variable {P : Program} {w0 w : World} {a : Act} {L : List Ent} {o : Oper} {ops : Array Oper} {rest : List Oper} {Q : Exit → Act → World → Prop}
theorem run_empty {t e : TypeId} (hu : P.underlying t = some (.slice e)) {z : Option Value} {size bytes : Nat} (hi : (P.info? e).map (fun i => (i.zero, i.size, i.bytes)) = some (z, size, bytes)) (w : World) :
    (Instr.buildSlice t 0 #[]).run P w = .ok (.slice (some ⟨w.heap.size, 0, none⟩) 0 0) (w.alloc (.cells #[] e)) := by
  cases hie : P.info? e with
  | none => simp [hie] at hi
  | some i => simp [Instr.buildSlice, run_underlying hu, sizeOf, typeInfo, hie, newRow, Instr.fill, show Array.range 0 = #[] from rfl]
/-- []T{} -/
theorem wpList_empty (hgd : o.guard = none) (S : St w0 w L) (t : TypeId) (ho : o.op = .buildSlice t 0 #[])
    (e : TypeId) (ht : P.underlying t = some (.slice e)) {z : Option Value} {size bytes : Nat} (hi : (P.info? e).map (fun i => (i.zero, i.size, i.bytes)) = some (z, size, bytes))
    (h : ∀ g w' M, M = .row e size (.slice (some ⟨g, 0, none⟩) 0 0) 0 [] :: L → St w0 w' M → wpList P ops Q rest (a.put o.dst (.slice (some ⟨g, 0, none⟩) 0 0)) w') : wpList P ops Q (o :: rest) a w := by
  refine wpList_plain hgd fun _ hK => ?_
  unfold Oper.wp
  simp only [execOp, ho, Sem.run_bind, Array.map_empty, run_empty ht hi w, Result.andThen_ok, Sem.run_pure]
  exact hK _ _ (h _ _ _ rfl ((S.new e []).asRow (p := 0) rfl (by simp) (by simp [maxLen])))
end
/-- The first elements. -/
theorem Sees.front {w : World} {size n cap : Nat} {A : Option Addr} {xs : List Value} (h : Sees w size (.slice A n cap) n xs) (k : Nat) (hk : k ≤ n) : Sees w size (.slice A k cap) k (xs.take (k * size)) := by
  obtain ⟨h1, A', cap', e, hc, hm, h2⟩ := h
  injection e with e1 e2 e3
  subst e1; subst e3
  have hle : k * size ≤ n * size := Nat.mul_le_mul_right _ hk
  refine ⟨by rw [List.length_take]; omega, A, cap, rfl, by omega, hm, fun hn => ?_⟩
  obtain ⟨b, off, rfl, hlt, h3⟩ := h2 (by omega)
  refine ⟨b, off, rfl, hlt, fun j u hu => h3 j u ?_⟩
  rw [List.getElem?_take] at hu
  split at hu
  · exact hu
  · cases hu
/-- The rest. -/
theorem Sees.rest {w : World} {size n cap b off : Nat} {xs : List Value} (h : Sees w size (.slice (some ⟨b, off, none⟩) n cap) n xs) (k m : Nat) (hk : k + m = n) (off' cap' : Nat) (ho : off' = off + k * size) (hc' : m ≤ cap' ∧ cap' ≤ cap) :
    Sees w size (.slice (some ⟨b, off', none⟩) m cap') m (xs.drop (k * size)) := by
  subst hk
  obtain ⟨h1, A', cap0, e, hc, hm, h2⟩ := h
  injection e with e1 e2 e3
  subst e1; subst e3
  have hmul : (k + m) * size = k * size + m * size := Nat.add_mul _ _ _
  refine ⟨by rw [List.length_drop]; omega, _, cap', rfl, hc'.1, by omega, fun hn => ?_⟩
  obtain ⟨b', off0, e, hlt, h3⟩ := h2 (by omega)
  injection e with e
  injection e with e1 e2 e3
  subst e1; subst e2; subst ho
  refine ⟨b, off + k * size, rfl, hlt, fun j u hu => ?_⟩
  rw [List.getElem?_drop] at hu
  have := h3 _ _ hu
  rwa [← Nat.add_assoc] at this
end Go.Proofs.Ytdfpceobfficfaa
