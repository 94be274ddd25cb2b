/-
  Contracts of what draws matrices: sides.
-/
import Derived.Test.YtjihfeffonadmaaDrawS
import Derived.Test.YtjihfeffonadmaaMatW
namespace Go.Proofs.Ytjihfeffonadmaa
set_option linter.unusedSimpArgs false
set_option linter.unusedVariables false
set_option linter.unusedSectionVars false
open Go Go.RowKit
set_option maxHeartbeats 8000000
set_option maxRecDepth 20000
theorem C_l20Side (R : List Ent) (gr : Nat) (v : Value) (k : Int) (w0 w1 : World) (S0 : St w0 w1 (.box gr 126 [v, .int .i64 k] :: R)) (hB : Bytes w0 v) (hk : 0 ≤ k ∧ k ≤ 600000000) :
    Calls Try.prog 68 #[.pointer (some ⟨gr, 0, none⟩)] w1 fun e w' => ∃ (y : Nat) (k' : Int), e = .returned (.int .i64 y) ∧ 1 ≤ y ∧ y ≤ 5 ∧ k ≤ k' ∧ k' ≤ k + 2 ∧ St w0 w' (.box gr 126 [v, .int .i64 k'] :: R) := by
  have HB := Lib.hid hB
  obtain ⟨k1, k2⟩ := hk
  clear hB
  obtain ⟨L, HL, S⟩ := st_name S0
  clear S0
  replace HL := Lib.hid HL
  have F := factsAll HL S
  simp only [factsOf, cellsFrom, and_true, true_and, Nat.reduceAdd] at F
  go_enter Try.func68, Try.ntmps68
  go_wp2_with (first | ((go_at_call 71; refine (C_pick _ _ _ _ _ w0 _ (S.front (by first | exact atOf HL (p := 0) rfl | exact atOf HL (p := 1) rfl | exact atOf HL (p := 2) rfl | exact atOf HL (p := 3) rfl | exact atOf HL (p := 4) rfl | exact atOf HL (p := 5) rfl | exact atOf HL (p := 6) rfl | exact atOf HL (p := 7) rfl)) HB.out ⟨by omega, by omega⟩).mono ?_; rintro e w ⟨y, rfl, hy0, T0⟩; obtain ⟨L, hM, T⟩ := st_name T0; clear T0; clear F S; (try rw [HL.out] at hM); clear HL; (try simp only [List.eraseIdx_cons_zero, List.eraseIdx_cons_succ] at hM); have HL := Lib.hid hM; clear hM; have S := T; clear T; have F := factsAll HL S; (try simp only [factsOf, cellsFrom, and_true, true_and, Nat.reduceAdd] at F)); have hy := hy0 (by omega); clear hy0) | (refine wpList_lit rfl S _ _ _ rfl 3 Try.underlying22 infoInt (by simp [Act.eval]) (by simp [Act.eval, Value.oneCell']) rfl rfl rfl ?_; intro g w L hM T; clear F S; (try rw [HL.out] at hM); clear HL; (try simp [Act.put, Act.eval, Value.cells, splice] at hM); have HL := Lib.hid hM; clear hM; have S := T; clear T; have F := factsAll HL S; (try simp only [factsOf, cellsFrom, and_true, true_and, Nat.reduceAdd] at F)) | (first | (refine wpList_load_lit rfl S _ _ rfl Try.underlying3 1 _ _ _ _ (atOf HL rfl) rfl (by simp) (by simp; omega) ?_; intro q hq; have hq := id hq; simp only [List.mem_cons, Value.int.injEq, true_and, List.not_mem_nil, or_false] at hq) | (refine wpList_load_lit rfl S _ _ rfl Try.underlying3 2 _ _ _ _ (atOf HL rfl) rfl (by simp) (by simp; omega) ?_; intro q hq; have hq := id hq; simp only [List.mem_cons, Value.int.injEq, true_and, List.not_mem_nil, or_false] at hq) | (refine wpList_load_lit rfl S _ _ rfl Try.underlying3 3 _ _ _ _ (atOf HL rfl) rfl (by simp) (by simp; omega) ?_; intro q hq; have hq := id hq; simp only [List.mem_cons, Value.int.injEq, true_and, List.not_mem_nil, or_false] at hq)))
  all_goals
    go_ret
    have e : (q.toNat : Int) = q := Int.toNat_of_nonneg (by omega)
    refine ⟨q.toNat, _, ?_, ?_, ?_, ?_, ?_, (by rw [HL.out] at S; exact S.sub (by first | exact .refl _ | exact .cons_cons _ (.refl _) | (refine .cons_cons _ ?_; repeat (first | exact .refl _ | refine .cons _ ?_)) | (repeat (first | exact .refl _ | exact .cons_cons _ (.refl _) | refine .cons _ ?_))))⟩
    · rw [e]; rfl
    all_goals omega
section
variable {P : Program} {w0 w : World} {a : Act} {L : List Ent} {o : Oper} {K : Act → World → Prop} {Q : Exit → Act → World → Prop}
theorem wp_lit2i (S : St w0 w L) (t : TypeId) (x y : Operand) (ho : o.op = .buildSlice t 2 #[(0, x), (1, y)])
    (e : TypeId) (ht : P.underlying t = some (.slice e)) {z : Value} {bytes : Nat} (hi : (P.info? e).map (fun i => (i.zero, i.size, i.bytes)) = some (some z, 1, bytes))
    (c d : Int) (hx : a.eval x = .int .i64 c) (hy : a.eval y = .int .i64 d)
    (h : ∀ g w' M, M = .box g e [.int .i64 c, .int .i64 d] :: L → St w0 w' M → K (a.put o.dst (.slice (some ⟨g, 0, none⟩) 2 2)) w') : o.wp P a w K Q := by
  obtain ⟨i, hi0, hz0, hz1, hz2⟩ := info_parts hi
  refine Go.wp_buildSlice t e 2 _ ho #[.int .i64 c, .int .i64 d] i z ht hi0 hz0 (by rw [hz1]; omega) (by rw [hz1]; omega) ?_ (h _ _ _ rfl (S.new e _))
  rw [hz1, Array.toList_map]
  show Instr.fill _ _ [(0, a.eval x), (1, a.eval y)] = _
  rw [hx, hy]
  show Instr.fill _ _ (([Value.int .i64 c, .int .i64 d].zipIdx 0).map fun x => (x.2, x.1)) = _
  exact Great.fill_flat _ _ (fun v hv => by
    rcases List.mem_cons.1 hv with rfl | hv
    · rfl
    · rw [List.mem_singleton.1 hv]; rfl) (by simp)
end
theorem quo3 {y : Int} (h : 0 ≤ y ∧ y < 4) : IntKind.i64.wrap (Int.tdiv y 3) = 0 ∨ IntKind.i64.wrap (Int.tdiv y 3) = 1 := by
  rw [Int.tdiv_eq_ediv_of_nonneg h.1, IntKind.wrap_i64]
  omega
end Go.Proofs.Ytjihfeffonadmaa
