/-
  Contracts: matrices and shared matrices: the laws' helpers; validity; own copies.
-/
import Derived.Test.YtdfpceobfficfaaMx
import Derived.Test.YtdfpceobfficfaaCheck
import Derived.Test.YtdfpceobfficfaaView
import Derived.Test.YtdfpceobfficfaaOwn
namespace Go.Proofs.Ytdfpceobfficfaa
set_option linter.unusedSimpArgs false
set_option linter.unusedVariables false
set_option linter.unusedSectionVars false
open Go Go.RowKit
set_option maxHeartbeats 8000000
set_option maxRecDepth 20000
theorem zMx : (Try.prog.info? 55).bind (·.zero) = some (.agg #[.int .i64 0, .int .i64 0, .slice none 0 0]) := by kernel_rfl
theorem zSMx : (Try.prog.info? 67).bind (·.zero) = some (.agg #[.int .i64 0, .int .i64 0, .slice none 0 0, .int .i64 0, .int .i64 0, .slice none 0 0]) := by kernel_rfl
/-- A new matrix. -/
def MakesMx (w0 : World) (r c : Int) (xs : List Int) (e : Ending) (w : World) : Prop :=
  ∃ u, e = .returned (.agg #[.int .i64 r, .int .i64 c, u]) ∧ St w0 w [.row 3 1 u xs.length (ints xs)]
/-- A new shared matrix. -/
def MakesSMx (w0 : World) (r c : Int) (xs : List Int) (r' c' : Int) (ys : List Int) (e : Ending) (w : World) : Prop :=
  ∃ u v, e = .returned (.agg #[.int .i64 r, .int .i64 c, u, .int .i64 r', .int .i64 c', v]) ∧ St w0 w [.row 3 1 v ys.length (ints ys), .row 3 1 u xs.length (ints xs)]
theorem St.sliceOf {w0 w : World} {L : List Ent} {p size n : Nat} {t : TypeId} {v : Value} {xs : List Value} (S : St w0 w L) (h : At L p (.row t size v n xs)) : ∃ A cap, v = .slice A n cap ∧ n ≤ cap ∧ cap ≤ maxLen := by
  obtain ⟨_, A, cap, e, h1, h2, _⟩ := Sees.row S h
  exact ⟨A, cap, e, h1, h2⟩
theorem At.cons {L : List Ent} {p : Nat} {e b : Ent} (h : At L p e) : (b :: L)[p + 1]? = some e := h
section
variable {P : Program} {w0 w : World} {L : List Ent} {o : Oper} {a : Act} {K : Act → World → Prop} {Q : Exit → Act → World → Prop} {ops : Array Oper} {rest : List Oper}
theorem run_append_none (base : Nat) (t ty e : TypeId) (i : TypeInfo) (size c : Nat) (ht : P.underlying t = some (.slice e)) (hi : P.info? e = some i)
    (v : Value) (n : Nat) (xs : List Value) (hown : w.ownsRow base e size v n xs) :
    (Builtin.append_ #[t, t] ty #[v, .slice none 0 c]).run P w = .ok v w := by
  rcases hown.2 with ⟨rfl, rfl⟩ | ⟨g, cap, cur, rfl, _, _, hnc, _⟩
  · simp [Builtin.append_, run_underlying ht, sizeOf, typeInfo, hi, Builtin.lenOf, Builtin.firstCells]
  · simp [Builtin.append_, run_underlying ht, sizeOf, typeInfo, hi, Builtin.lenOf, Builtin.firstCells, hnc, storeCells]
/-- append(s, x...), x a slice that is seen (or nil). -/
theorem wp_append_see (S : St w0 w L) (s x : Operand) (t : TypeId) (ho : o.op = .call { callee := .builtin .append, args := #[s, x], argTypes := #[t, t] })
    (p : Nat) (e : TypeId) (z : Value) (size bytes : Nat) (ht : P.underlying t = some (.slice e)) (hi : (P.info? e).map (fun i => (i.zero, i.size, i.bytes)) = some (some z, size, bytes))
    (hzs : z.cells.size = size) (hsz : 0 < size) (v : Value) (n : Nat) (xs : List Value) (hs : a.eval s = v) (hp : At L p (.row e size v n xs))
    (u : Value) (m : Nat) (news : List Value) (hx : a.eval x = u) (hu : Sees w size u m news) (h1 : news.all (·.oneCell') = true)
    (h63 : n + m ≤ maxLen) (hbytes : (n + m) * bytes ≤ 140737488355328)
    (h : ∀ v' w' M, M = L.set p (.row e size v' (n + m) (xs ++ news)) → St w0 w' M → K (a.put o.dst v') w') : o.wp P a w K Q := by
  obtain ⟨hl, A, cap, rfl, hc, hmx, hA⟩ := hu
  cases A with
  | some ad =>
    refine wp_append S s x t ho p e z size bytes ht hi hzs hsz v n xs hs hp ad m cap news hx hl ?_ h1 h63 hbytes h
    rcases Nat.eq_zero_or_pos m with rfl | hm
    · intro j u hu
      rw [List.length_eq_zero_iff.1 (hl.trans (Nat.zero_mul _))] at hu
      cases hu
    · obtain ⟨b, off, e1, _, h3⟩ := hA hm
      injection e1 with e1
      subst e1
      intro j u hu
      have hadd : (⟨b, off, none⟩ : Addr).add j = ⟨b, off + j, none⟩ := by unfold Addr.add; split <;> simp_all
      rw [hadd]
      exact h3 j u hu
  | none =>
    have hm : m = 0 := by
      rcases Nat.eq_zero_or_pos m with hm | hm
      · exact hm
      · obtain ⟨b, off, e1, _⟩ := hA hm
        cases e1
    subst hm
    have hnews : news = [] := List.length_eq_zero_iff.1 (hl.trans (Nat.zero_mul _))
    subst hnews
    obtain ⟨i, hi0, _⟩ := info_parts hi
    have hrun := run_append_none (P := P) (w := w) w0.heap.size t o.type e i size cap ht hi0 v n xs (S.own _ hp.mem)
    unfold Oper.wp execOp
    simp only [ho, resolve, invoke, builtin, Sem.run_bind, Sem.run_pure, Result.andThen_ok, List.map_toArray, List.map_cons, List.map_nil, hs, hx, hrun]
    refine h v w _ rfl ?_
    obtain ⟨q1, q2⟩ := List.getElem?_eq_some_iff.1 hp.get
    rw [Nat.add_zero, List.append_nil, ← q2, List.set_getElem_self]
    exact S
theorem wpList_append_see (hgd : o.guard = none) (S : St w0 w L) (s x : Operand) (t : TypeId) (ho : o.op = .call { callee := .builtin .append, args := #[s, x], argTypes := #[t, t] })
    (p : Nat) (e : TypeId) (z : Value) (size bytes : Nat) (ht : P.underlying t = some (.slice e)) (hi : (P.info? e).map (fun i => (i.zero, i.size, i.bytes)) = some (some z, size, bytes))
    (hzs : z.cells.size = size) (hsz : 0 < size) (v : Value) (n : Nat) (xs : List Value) (hs : a.eval s = v) (hp : At L p (.row e size v n xs))
    (u : Value) (m : Nat) (news : List Value) (hx : a.eval x = u) (hu : Sees w size u m news) (h1 : news.all (·.oneCell') = true)
    (h63 : n + m ≤ maxLen) (hbytes : (n + m) * bytes ≤ 140737488355328)
    (h : ∀ v' w' M, M = L.set p (.row e size v' (n + m) (xs ++ news)) → St w0 w' M → wpList P ops Q rest (a.put o.dst v') w') : wpList P ops Q (o :: rest) a w :=
  wpList_plain hgd fun _ hK => wp_append_see S s x t ho p e z size bytes ht hi hzs hsz v n xs hs hp u m news hx hu h1 h63 hbytes fun v' w' M hM S' => hK _ _ (h v' w' M hM S')
end
theorem C_szIntS (A : Option Addr) (n cap : Nat) (k : Int) (w0 : World) (hn : n ≤ cap) (hc : cap ≤ maxLen) (hk : 0 ≤ k ∧ k ≤ 1000000000) :
    Calls Try.prog 131 #[.slice A n cap, .int .i64 k] w0 fun e w' => e = .returned (.int .i64 (if k - n < 0 then -1 else k - n)) ∧ w0 = w' := by
  obtain ⟨k1, k2⟩ := hk
  unfold maxLen at hc
  by_cases h : k - n < 0
  · rw [if_pos h]
    go_enter Try.func131, Try.ntmps131
    go_wp2
    go_ret
    exact ⟨rfl, rfl⟩
  · rw [if_neg h]
    go_enter Try.func131, Try.ntmps131
    go_wp2
    go_ret
    exact ⟨rfl, rfl⟩
theorem C_szMatrix (r c : Int) (A : Option Addr) (n cap : Nat) (k : Int) (w0 : World) (hn : n ≤ cap) (hc : cap ≤ maxLen) (hk : 0 ≤ k ∧ k ≤ 1000000000) :
    Calls Try.prog 120 #[.agg #[.int .i64 r, .int .i64 c, .slice A n cap], .int .i64 k] w0 fun e w' => e = .returned (.int .i64 (if k - n < 0 then -1 else k - n)) ∧ Below w0.heap.size w0 w' := by
  have CZ := fun w => C_szIntS A n cap k w hn hc hk
  unfold maxLen at hc
  obtain ⟨k1, k2⟩ := hk
  by_cases h : k - n < 0
  · simp only [if_pos h] at CZ ⊢
    obtain ⟨L, HL, S⟩ := st_start w0; have F : True := trivial
    go_enter Try.func120, Try.ntmps120
    go_wp2_with (first | (refine wpList_box rfl S _ _ rfl ?_; intro g w L hM T; clear F S; (try rw [HL.out] at hM); clear HL; (try simp [Act.put, Act.eval, Value.cells, splice] at hM); have HL := Lib.hid hM; clear hM; have S := T; clear T; have F := factsAll HL S; (try simp only [factsOf, cellsFrom, and_true, true_and, Nat.reduceAdd] at F))  | (refine wpList_store_box rfl S _ _ _ rfl 0 _ _ _ _ (atOf HL rfl) rfl _ rfl (by kernel_rfl) rfl rfl ?_; intro w L hM T; clear F S; (try rw [HL.out] at hM); clear HL; (try simp [Act.put, Act.eval, Value.cells, splice] at hM); have HL := Lib.hid hM; clear hM; have S := T; clear T; have F := factsAll HL S; (try simp only [factsOf, cellsFrom, and_true, true_and, Nat.reduceAdd] at F)) | (refine wpList_store_box rfl S _ _ _ rfl 1 _ _ _ _ (atOf HL rfl) rfl _ rfl (by kernel_rfl) rfl rfl ?_; intro w L hM T; clear F S; (try rw [HL.out] at hM); clear HL; (try simp [Act.put, Act.eval, Value.cells, splice] at hM); have HL := Lib.hid hM; clear hM; have S := T; clear T; have F := factsAll HL S; (try simp only [factsOf, cellsFrom, and_true, true_and, Nat.reduceAdd] at F)) | (refine wpList_store_box rfl S _ _ _ rfl 2 _ _ _ _ (atOf HL rfl) rfl _ rfl (by kernel_rfl) rfl rfl ?_; intro w L hM T; clear F S; (try rw [HL.out] at hM); clear HL; (try simp [Act.put, Act.eval, Value.cells, splice] at hM); have HL := Lib.hid hM; clear hM; have S := T; clear T; have F := factsAll HL S; (try simp only [factsOf, cellsFrom, and_true, true_and, Nat.reduceAdd] at F)) | (refine wpList_store_box rfl S _ _ _ rfl 3 _ _ _ _ (atOf HL rfl) rfl _ rfl (by kernel_rfl) rfl rfl ?_; intro w L hM T; clear F S; (try rw [HL.out] at hM); clear HL; (try simp [Act.put, Act.eval, Value.cells, splice] at hM); have HL := Lib.hid hM; clear hM; have S := T; clear T; have F := factsAll HL S; (try simp only [factsOf, cellsFrom, and_true, true_and, Nat.reduceAdd] at F))  | (go_at_call 131; refine (CZ _).mono ?_; rintro e w' ⟨rfl, rfl⟩))
    go_ret
    exact ⟨rfl, S.below⟩
  · simp only [if_neg h] at CZ ⊢
    obtain ⟨L, HL, S⟩ := st_start w0; have F : True := trivial
    go_enter Try.func120, Try.ntmps120
    go_wp2_with (first | (refine wpList_box rfl S _ _ rfl ?_; intro g w L hM T; clear F S; (try rw [HL.out] at hM); clear HL; (try simp [Act.put, Act.eval, Value.cells, splice] at hM); have HL := Lib.hid hM; clear hM; have S := T; clear T; have F := factsAll HL S; (try simp only [factsOf, cellsFrom, and_true, true_and, Nat.reduceAdd] at F))  | (refine wpList_store_box rfl S _ _ _ rfl 0 _ _ _ _ (atOf HL rfl) rfl _ rfl (by kernel_rfl) rfl rfl ?_; intro w L hM T; clear F S; (try rw [HL.out] at hM); clear HL; (try simp [Act.put, Act.eval, Value.cells, splice] at hM); have HL := Lib.hid hM; clear hM; have S := T; clear T; have F := factsAll HL S; (try simp only [factsOf, cellsFrom, and_true, true_and, Nat.reduceAdd] at F)) | (refine wpList_store_box rfl S _ _ _ rfl 1 _ _ _ _ (atOf HL rfl) rfl _ rfl (by kernel_rfl) rfl rfl ?_; intro w L hM T; clear F S; (try rw [HL.out] at hM); clear HL; (try simp [Act.put, Act.eval, Value.cells, splice] at hM); have HL := Lib.hid hM; clear hM; have S := T; clear T; have F := factsAll HL S; (try simp only [factsOf, cellsFrom, and_true, true_and, Nat.reduceAdd] at F)) | (refine wpList_store_box rfl S _ _ _ rfl 2 _ _ _ _ (atOf HL rfl) rfl _ rfl (by kernel_rfl) rfl rfl ?_; intro w L hM T; clear F S; (try rw [HL.out] at hM); clear HL; (try simp [Act.put, Act.eval, Value.cells, splice] at hM); have HL := Lib.hid hM; clear hM; have S := T; clear T; have F := factsAll HL S; (try simp only [factsOf, cellsFrom, and_true, true_and, Nat.reduceAdd] at F)) | (refine wpList_store_box rfl S _ _ _ rfl 3 _ _ _ _ (atOf HL rfl) rfl _ rfl (by kernel_rfl) rfl rfl ?_; intro w L hM T; clear F S; (try rw [HL.out] at hM); clear HL; (try simp [Act.put, Act.eval, Value.cells, splice] at hM); have HL := Lib.hid hM; clear hM; have S := T; clear T; have F := factsAll HL S; (try simp only [factsOf, cellsFrom, and_true, true_and, Nat.reduceAdd] at F))  | (go_at_call 131; refine (CZ _).mono ?_; rintro e w' ⟨rfl, rfl⟩))
    go_ret
    exact ⟨rfl, S.below⟩
theorem C_szMatrix' (r c : Int) (A : Option Addr) (n cap : Nat) (k q : Int) (w0 : World) (hn : n ≤ cap) (hc : cap ≤ maxLen) (hk : 0 ≤ k ∧ k ≤ 1000000000) (hq : (if k - n < 0 then -1 else k - n) = q) :
    Calls Try.prog 120 #[.agg #[.int .i64 r, .int .i64 c, .slice A n cap], .int .i64 k] w0 fun e w' => e = .returned (.int .i64 q) ∧ Below w0.heap.size w0 w' := hq ▸ C_szMatrix r c A n cap k w0 hn hc hk
theorem C_szSharedMatrix (r c r' c' : Int) (A B : Option Addr) (n cap m cap' : Nat) (k : Int) (w0 : World) (hn : n ≤ cap) (hc : cap ≤ maxLen) (hm : m ≤ cap') (hc' : cap' ≤ maxLen) (hk : 0 ≤ k ∧ k ≤ 1000000000) :
    Calls Try.prog 116 #[.agg #[.int .i64 r, .int .i64 c, .slice A n cap, .int .i64 r', .int .i64 c', .slice B m cap'], .int .i64 k] w0 fun e w' => e = .returned (.int .i64 (if k - n - m < 0 then -1 else k - n - m)) ∧ Below w0.heap.size w0 w' := by
  obtain ⟨k1, k2⟩ := hk
  have HN := Lib.hid hn
  have HC := Lib.hid hc
  have HM := Lib.hid hm
  have HC' := Lib.hid hc'
  clear hc hc'
  by_cases h : k - n < 0
  · have e : (if k - n - m < 0 then -1 else k - n - m) = -1 := if_pos (by omega)
    rw [e]
    clear e
    obtain ⟨L, HL, S⟩ := st_start w0; have F : True := trivial
    go_enter Try.func116, Try.ntmps116
    go_wp2_with (first | (refine wpList_box rfl S _ _ rfl ?_; intro g w L hM T; clear F S; (try rw [HL.out] at hM); clear HL; (try simp [Act.put, Act.eval, Value.cells, splice] at hM); have HL := Lib.hid hM; clear hM; have S := T; clear T; have F := factsAll HL S; (try simp only [factsOf, cellsFrom, and_true, true_and, Nat.reduceAdd] at F))  | (refine wpList_store_box rfl S _ _ _ rfl 0 _ _ _ _ (atOf HL rfl) rfl _ rfl (by kernel_rfl) rfl rfl ?_; intro w L hM T; clear F S; (try rw [HL.out] at hM); clear HL; (try simp [Act.put, Act.eval, Value.cells, splice] at hM); have HL := Lib.hid hM; clear hM; have S := T; clear T; have F := factsAll HL S; (try simp only [factsOf, cellsFrom, and_true, true_and, Nat.reduceAdd] at F)) | (refine wpList_store_box rfl S _ _ _ rfl 1 _ _ _ _ (atOf HL rfl) rfl _ rfl (by kernel_rfl) rfl rfl ?_; intro w L hM T; clear F S; (try rw [HL.out] at hM); clear HL; (try simp [Act.put, Act.eval, Value.cells, splice] at hM); have HL := Lib.hid hM; clear hM; have S := T; clear T; have F := factsAll HL S; (try simp only [factsOf, cellsFrom, and_true, true_and, Nat.reduceAdd] at F)) | (refine wpList_store_box rfl S _ _ _ rfl 2 _ _ _ _ (atOf HL rfl) rfl _ rfl (by kernel_rfl) rfl rfl ?_; intro w L hM T; clear F S; (try rw [HL.out] at hM); clear HL; (try simp [Act.put, Act.eval, Value.cells, splice] at hM); have HL := Lib.hid hM; clear hM; have S := T; clear T; have F := factsAll HL S; (try simp only [factsOf, cellsFrom, and_true, true_and, Nat.reduceAdd] at F)) | (refine wpList_store_box rfl S _ _ _ rfl 3 _ _ _ _ (atOf HL rfl) rfl _ rfl (by kernel_rfl) rfl rfl ?_; intro w L hM T; clear F S; (try rw [HL.out] at hM); clear HL; (try simp [Act.put, Act.eval, Value.cells, splice] at hM); have HL := Lib.hid hM; clear hM; have S := T; clear T; have F := factsAll HL S; (try simp only [factsOf, cellsFrom, and_true, true_and, Nat.reduceAdd] at F))  | (go_at_call 120; refine (C_szMatrix' _ _ _ _ _ _ _ _ HN.out HC.out ⟨by omega, by omega⟩ (by exact if_pos h)).mono ?_; rintro e w ⟨rfl, hb⟩; replace S := S.grow hb; clear hb))
    go_ret
    exact ⟨rfl, S.below⟩
  · obtain ⟨q, hq⟩ : ∃ q, k - n = q := ⟨_, rfl⟩
    have E1 := Lib.hid ((if_neg h).trans hq : (if k - n < 0 then (-1 : Int) else k - n) = q)
    rw [hq] at h ⊢
    have hq1 : q ≤ 1000000000 := by omega
    clear hq
    obtain ⟨z, hz⟩ : ∃ z, (if q - m < 0 then -1 else q - m) = z := ⟨_, rfl⟩
    rw [hz]
    have E2 := Lib.hid hz
    by_cases h2 : q - m < 0
    · rw [if_pos h2] at hz
      subst hz
      obtain ⟨L, HL, S⟩ := st_start w0; have F : True := trivial
      go_enter Try.func116, Try.ntmps116
      go_wp2_with (first | (refine wpList_box rfl S _ _ rfl ?_; intro g w L hM T; clear F S; (try rw [HL.out] at hM); clear HL; (try simp [Act.put, Act.eval, Value.cells, splice] at hM); have HL := Lib.hid hM; clear hM; have S := T; clear T; have F := factsAll HL S; (try simp only [factsOf, cellsFrom, and_true, true_and, Nat.reduceAdd] at F))  | (refine wpList_store_box rfl S _ _ _ rfl 0 _ _ _ _ (atOf HL rfl) rfl _ rfl (by kernel_rfl) rfl rfl ?_; intro w L hM T; clear F S; (try rw [HL.out] at hM); clear HL; (try simp [Act.put, Act.eval, Value.cells, splice] at hM); have HL := Lib.hid hM; clear hM; have S := T; clear T; have F := factsAll HL S; (try simp only [factsOf, cellsFrom, and_true, true_and, Nat.reduceAdd] at F)) | (refine wpList_store_box rfl S _ _ _ rfl 1 _ _ _ _ (atOf HL rfl) rfl _ rfl (by kernel_rfl) rfl rfl ?_; intro w L hM T; clear F S; (try rw [HL.out] at hM); clear HL; (try simp [Act.put, Act.eval, Value.cells, splice] at hM); have HL := Lib.hid hM; clear hM; have S := T; clear T; have F := factsAll HL S; (try simp only [factsOf, cellsFrom, and_true, true_and, Nat.reduceAdd] at F)) | (refine wpList_store_box rfl S _ _ _ rfl 2 _ _ _ _ (atOf HL rfl) rfl _ rfl (by kernel_rfl) rfl rfl ?_; intro w L hM T; clear F S; (try rw [HL.out] at hM); clear HL; (try simp [Act.put, Act.eval, Value.cells, splice] at hM); have HL := Lib.hid hM; clear hM; have S := T; clear T; have F := factsAll HL S; (try simp only [factsOf, cellsFrom, and_true, true_and, Nat.reduceAdd] at F)) | (refine wpList_store_box rfl S _ _ _ rfl 3 _ _ _ _ (atOf HL rfl) rfl _ rfl (by kernel_rfl) rfl rfl ?_; intro w L hM T; clear F S; (try rw [HL.out] at hM); clear HL; (try simp [Act.put, Act.eval, Value.cells, splice] at hM); have HL := Lib.hid hM; clear hM; have S := T; clear T; have F := factsAll HL S; (try simp only [factsOf, cellsFrom, and_true, true_and, Nat.reduceAdd] at F))  | (go_at_call 120; refine (C_szMatrix' _ _ _ _ _ _ _ _ (by first | exact HN.out | exact HM.out) (by first | exact HC.out | exact HC'.out) ⟨by omega, by omega⟩ (by first | exact E1.out | exact E2.out)).mono ?_; rintro e w ⟨rfl, hb⟩; replace S := S.grow hb; clear hb))
      go_ret
      exact ⟨rfl, S.below⟩
    · rw [if_neg h2] at hz
      have hz0 : 0 ≤ z := by omega
      clear hz
      obtain ⟨L, HL, S⟩ := st_start w0; have F : True := trivial
      go_enter Try.func116, Try.ntmps116
      go_wp2_with (first | (refine wpList_box rfl S _ _ rfl ?_; intro g w L hM T; clear F S; (try rw [HL.out] at hM); clear HL; (try simp [Act.put, Act.eval, Value.cells, splice] at hM); have HL := Lib.hid hM; clear hM; have S := T; clear T; have F := factsAll HL S; (try simp only [factsOf, cellsFrom, and_true, true_and, Nat.reduceAdd] at F))  | (refine wpList_store_box rfl S _ _ _ rfl 0 _ _ _ _ (atOf HL rfl) rfl _ rfl (by kernel_rfl) rfl rfl ?_; intro w L hM T; clear F S; (try rw [HL.out] at hM); clear HL; (try simp [Act.put, Act.eval, Value.cells, splice] at hM); have HL := Lib.hid hM; clear hM; have S := T; clear T; have F := factsAll HL S; (try simp only [factsOf, cellsFrom, and_true, true_and, Nat.reduceAdd] at F)) | (refine wpList_store_box rfl S _ _ _ rfl 1 _ _ _ _ (atOf HL rfl) rfl _ rfl (by kernel_rfl) rfl rfl ?_; intro w L hM T; clear F S; (try rw [HL.out] at hM); clear HL; (try simp [Act.put, Act.eval, Value.cells, splice] at hM); have HL := Lib.hid hM; clear hM; have S := T; clear T; have F := factsAll HL S; (try simp only [factsOf, cellsFrom, and_true, true_and, Nat.reduceAdd] at F)) | (refine wpList_store_box rfl S _ _ _ rfl 2 _ _ _ _ (atOf HL rfl) rfl _ rfl (by kernel_rfl) rfl rfl ?_; intro w L hM T; clear F S; (try rw [HL.out] at hM); clear HL; (try simp [Act.put, Act.eval, Value.cells, splice] at hM); have HL := Lib.hid hM; clear hM; have S := T; clear T; have F := factsAll HL S; (try simp only [factsOf, cellsFrom, and_true, true_and, Nat.reduceAdd] at F)) | (refine wpList_store_box rfl S _ _ _ rfl 3 _ _ _ _ (atOf HL rfl) rfl _ rfl (by kernel_rfl) rfl rfl ?_; intro w L hM T; clear F S; (try rw [HL.out] at hM); clear HL; (try simp [Act.put, Act.eval, Value.cells, splice] at hM); have HL := Lib.hid hM; clear hM; have S := T; clear T; have F := factsAll HL S; (try simp only [factsOf, cellsFrom, and_true, true_and, Nat.reduceAdd] at F))  | (go_at_call 120; refine (C_szMatrix' _ _ _ _ _ _ _ _ (by first | exact HN.out | exact HM.out) (by first | exact HC.out | exact HC'.out) ⟨by omega, by omega⟩ (by first | exact E1.out | exact E2.out)).mono ?_; rintro e w ⟨rfl, hb⟩; replace S := S.grow hb; clear hb))
      go_ret
      exact ⟨rfl, S.below⟩
theorem C_toMatrix (r c : Int) (xs : List Int) (v : Value) (w0 : World) (h : Ints w0 v xs) (hn : xs.length ≤ 1048576) : Calls Try.prog 121 #[.agg #[.int .i64 r, .int .i64 c, v]] w0 (MakesMx w0 r c xs) := by
  unfold MakesMx
  obtain ⟨L, HL, S⟩ := st_start w0; have F : True := trivial
  go_enter Try.func121, Try.ntmps121
  go_wp2_with (first | (refine wpList_box rfl S _ _ rfl ?_; intro g w L hM T; clear F S; (try rw [HL.out] at hM); clear HL; (try simp [Act.put, Act.eval, Value.cells, splice] at hM); have HL := Lib.hid hM; clear hM; have S := T; clear T; have F := factsAll HL S; (try simp only [factsOf, cellsFrom, and_true, true_and, Nat.reduceAdd] at F)) | (refine wpList_alloc rfl S 55 _ rfl zMx ?_; intro g w L hM T; clear F S; (try rw [HL.out] at hM); clear HL; (try simp [Act.put, Act.eval, Value.cells, splice] at hM); have HL := Lib.hid hM; clear hM; have S := T; clear T; have F := factsAll HL S; (try simp only [factsOf, cellsFrom, and_true, true_and, Nat.reduceAdd] at F)) | (refine wpList_store_box rfl S _ _ _ rfl 0 _ _ _ _ (atOf HL rfl) rfl _ rfl (by kernel_rfl) rfl rfl ?_; intro w L hM T; clear F S; (try rw [HL.out] at hM); clear HL; (try simp [Act.put, Act.eval, Value.cells, splice] at hM); have HL := Lib.hid hM; clear hM; have S := T; clear T; have F := factsAll HL S; (try simp only [factsOf, cellsFrom, and_true, true_and, Nat.reduceAdd] at F)) | (refine wpList_store_box rfl S _ _ _ rfl 1 _ _ _ _ (atOf HL rfl) rfl _ rfl (by kernel_rfl) rfl rfl ?_; intro w L hM T; clear F S; (try rw [HL.out] at hM); clear HL; (try simp [Act.put, Act.eval, Value.cells, splice] at hM); have HL := Lib.hid hM; clear hM; have S := T; clear T; have F := factsAll HL S; (try simp only [factsOf, cellsFrom, and_true, true_and, Nat.reduceAdd] at F)) | (refine wpList_store_box rfl S _ _ _ rfl 2 _ _ _ _ (atOf HL rfl) rfl _ rfl (by kernel_rfl) rfl rfl ?_; intro w L hM T; clear F S; (try rw [HL.out] at hM); clear HL; (try simp [Act.put, Act.eval, Value.cells, splice] at hM); have HL := Lib.hid hM; clear hM; have S := T; clear T; have F := factsAll HL S; (try simp only [factsOf, cellsFrom, and_true, true_and, Nat.reduceAdd] at F)) | (refine wpList_store_box rfl S _ _ _ rfl 3 _ _ _ _ (atOf HL rfl) rfl _ rfl (by kernel_rfl) rfl rfl ?_; intro w L hM T; clear F S; (try rw [HL.out] at hM); clear HL; (try simp [Act.put, Act.eval, Value.cells, splice] at hM); have HL := Lib.hid hM; clear hM; have S := T; clear T; have F := factsAll HL S; (try simp only [factsOf, cellsFrom, and_true, true_and, Nat.reduceAdd] at F))  | (go_at_call 132; refine (C_toIntS _ xs _ (h.at_ S) hn).mono ?_; rintro e w ⟨u, rfl, T0⟩; obtain ⟨L, hM, T⟩ := st_name (S.call T0); clear T0; clear F S; (try rw [HL.out] at hM); clear HL; (try simp [Act.put, Act.eval, Value.cells, splice] at hM); have HL := Lib.hid hM; clear hM; have S := T; clear T; have F := factsAll HL S; (try simp only [factsOf, cellsFrom, and_true, true_and, Nat.reduceAdd] at F); obtain ⟨A', cap', rfl, hcap', hmax'⟩ := S.sliceOf (atOf HL (p := 0) rfl)))
  ((try simp only [Exit.inBlock, Exit.then]); refine ret1 rfl (resCell S HL 2 rfl rfl (by kernel_rfl)) rfl ?_)
  exact ⟨_, rfl, (by rw [HL.out] at S; exact S.sub (by first | exact .refl _ | exact .cons_cons _ (.refl _) | (refine .cons_cons _ ?_; repeat (first | exact .refl _ | refine .cons _ ?_)) | (repeat (first | exact .refl _ | exact .cons_cons _ (.refl _) | refine .cons _ ?_))))⟩
theorem C_toSharedMatrix (r c : Int) (xs : List Int) (r' c' : Int) (ys : List Int) (u v : Value) (w0 : World) (h : Ints w0 u xs) (h' : Ints w0 v ys) (hn : xs.length ≤ 1048576) (hn' : ys.length ≤ 1048576) :
    Calls Try.prog 117 #[.agg #[.int .i64 r, .int .i64 c, u, .int .i64 r', .int .i64 c', v]] w0 (MakesSMx w0 r c xs r' c' ys) := by
  have C1 := fun r c xs v w h hn => C_toMatrix r c xs v w h hn
  unfold MakesMx at C1
  unfold MakesSMx
  obtain ⟨L, HL, S⟩ := st_start w0; have F : True := trivial
  go_enter Try.func117, Try.ntmps117
  go_wp2_with (first | (refine wpList_box rfl S _ _ rfl ?_; intro g w L hM T; clear F S; (try rw [HL.out] at hM); clear HL; (try simp [Act.put, Act.eval, Value.cells, splice] at hM); have HL := Lib.hid hM; clear hM; have S := T; clear T; have F := factsAll HL S; (try simp only [factsOf, cellsFrom, and_true, true_and, Nat.reduceAdd] at F)) | (refine wpList_alloc rfl S 67 _ rfl zSMx ?_; intro g w L hM T; clear F S; (try rw [HL.out] at hM); clear HL; (try simp [Act.put, Act.eval, Value.cells, splice] at hM); have HL := Lib.hid hM; clear hM; have S := T; clear T; have F := factsAll HL S; (try simp only [factsOf, cellsFrom, and_true, true_and, Nat.reduceAdd] at F)) | (refine wpList_store_box rfl S _ _ _ rfl 0 _ _ _ _ (atOf HL rfl) rfl _ rfl (by kernel_rfl) rfl rfl ?_; intro w L hM T; clear F S; (try rw [HL.out] at hM); clear HL; (try simp [Act.put, Act.eval, Value.cells, splice] at hM); have HL := Lib.hid hM; clear hM; have S := T; clear T; have F := factsAll HL S; (try simp only [factsOf, cellsFrom, and_true, true_and, Nat.reduceAdd] at F)) | (refine wpList_store_box rfl S _ _ _ rfl 1 _ _ _ _ (atOf HL rfl) rfl _ rfl (by kernel_rfl) rfl rfl ?_; intro w L hM T; clear F S; (try rw [HL.out] at hM); clear HL; (try simp [Act.put, Act.eval, Value.cells, splice] at hM); have HL := Lib.hid hM; clear hM; have S := T; clear T; have F := factsAll HL S; (try simp only [factsOf, cellsFrom, and_true, true_and, Nat.reduceAdd] at F)) | (refine wpList_store_box rfl S _ _ _ rfl 2 _ _ _ _ (atOf HL rfl) rfl _ rfl (by kernel_rfl) rfl rfl ?_; intro w L hM T; clear F S; (try rw [HL.out] at hM); clear HL; (try simp [Act.put, Act.eval, Value.cells, splice] at hM); have HL := Lib.hid hM; clear hM; have S := T; clear T; have F := factsAll HL S; (try simp only [factsOf, cellsFrom, and_true, true_and, Nat.reduceAdd] at F)) | (refine wpList_store_box rfl S _ _ _ rfl 3 _ _ _ _ (atOf HL rfl) rfl _ rfl (by kernel_rfl) rfl rfl ?_; intro w L hM T; clear F S; (try rw [HL.out] at hM); clear HL; (try simp [Act.put, Act.eval, Value.cells, splice] at hM); have HL := Lib.hid hM; clear hM; have S := T; clear T; have F := factsAll HL S; (try simp only [factsOf, cellsFrom, and_true, true_and, Nat.reduceAdd] at F))  | (go_at_call 121; refine (C1 _ _ _ _ _ (by first | exact h.at_ S | exact h'.at_ S) (by first | exact hn | exact hn')).mono ?_; rintro e w ⟨u, rfl, T0⟩; obtain ⟨L, hM, T⟩ := st_name (S.call T0); clear T0; clear F S; (try rw [HL.out] at hM); clear HL; (try simp [Act.put, Act.eval, Value.cells, splice] at hM); have HL := Lib.hid hM; clear hM; have S := T; clear T; have F := factsAll HL S; (try simp only [factsOf, cellsFrom, and_true, true_and, Nat.reduceAdd] at F); obtain ⟨A', cap', rfl, hcap', hmax'⟩ := S.sliceOf (atOf HL (p := 0) rfl)))
  ((try simp only [Exit.inBlock, Exit.then]); refine ret1 rfl (resCell S HL 3 rfl rfl (by kernel_rfl)) rfl ?_)
  exact ⟨_, _, rfl, (by rw [HL.out] at S; exact S.sub (by repeat (first | exact .refl _ | exact List.nil_sublist _ | apply List.Sublist.cons_cons | apply List.Sublist.cons)))⟩
theorem C_eqMatrix (r c : Int) (xs : List Int) (u v : Value) (w0 : World) (hu : Ints w0 u xs) (hv : Ints w0 v xs) :
    Calls Try.prog 118 #[.agg #[.int .i64 r, .int .i64 c, u], .agg #[.int .i64 r, .int .i64 c, v]] w0 fun e w' => e = .returned (.bool true) ∧ Below w0.heap.size w0 w' := by
  obtain ⟨L, HL, S⟩ := st_start w0; have F : True := trivial
  go_enter Try.func118, Try.ntmps118
  go_wp2_with (first | (refine wpList_box rfl S _ _ rfl ?_; intro g w L hM T; clear F S; (try rw [HL.out] at hM); clear HL; (try simp [Act.put, Act.eval, Value.cells, splice] at hM); have HL := Lib.hid hM; clear hM; have S := T; clear T; have F := factsAll HL S; (try simp only [factsOf, cellsFrom, and_true, true_and, Nat.reduceAdd] at F))  | (refine wpList_store_box rfl S _ _ _ rfl 0 _ _ _ _ (atOf HL rfl) rfl _ rfl (by kernel_rfl) rfl rfl ?_; intro w L hM T; clear F S; (try rw [HL.out] at hM); clear HL; (try simp [Act.put, Act.eval, Value.cells, splice] at hM); have HL := Lib.hid hM; clear hM; have S := T; clear T; have F := factsAll HL S; (try simp only [factsOf, cellsFrom, and_true, true_and, Nat.reduceAdd] at F)) | (refine wpList_store_box rfl S _ _ _ rfl 1 _ _ _ _ (atOf HL rfl) rfl _ rfl (by kernel_rfl) rfl rfl ?_; intro w L hM T; clear F S; (try rw [HL.out] at hM); clear HL; (try simp [Act.put, Act.eval, Value.cells, splice] at hM); have HL := Lib.hid hM; clear hM; have S := T; clear T; have F := factsAll HL S; (try simp only [factsOf, cellsFrom, and_true, true_and, Nat.reduceAdd] at F)) | (refine wpList_store_box rfl S _ _ _ rfl 2 _ _ _ _ (atOf HL rfl) rfl _ rfl (by kernel_rfl) rfl rfl ?_; intro w L hM T; clear F S; (try rw [HL.out] at hM); clear HL; (try simp [Act.put, Act.eval, Value.cells, splice] at hM); have HL := Lib.hid hM; clear hM; have S := T; clear T; have F := factsAll HL S; (try simp only [factsOf, cellsFrom, and_true, true_and, Nat.reduceAdd] at F)) | (refine wpList_store_box rfl S _ _ _ rfl 3 _ _ _ _ (atOf HL rfl) rfl _ rfl (by kernel_rfl) rfl rfl ?_; intro w L hM T; clear F S; (try rw [HL.out] at hM); clear HL; (try simp [Act.put, Act.eval, Value.cells, splice] at hM); have HL := Lib.hid hM; clear hM; have S := T; clear T; have F := factsAll HL S; (try simp only [factsOf, cellsFrom, and_true, true_and, Nat.reduceAdd] at F))  | (go_at_call 130; refine (C_eqIntS _ _ xs _ (hu.at_ S) (hv.at_ S)).mono ?_; rintro e w ⟨rfl, hb⟩; replace S := S.grow hb; clear hb))
  go_ret
  exact ⟨rfl, S.below⟩
theorem C_eqSharedMatrix (r c : Int) (xs : List Int) (r' c' : Int) (ys : List Int) (u v u' v' : Value) (w0 : World) (hu : Ints w0 u xs) (hv : Ints w0 v ys) (hu' : Ints w0 u' xs) (hv' : Ints w0 v' ys) :
    Calls Try.prog 119 #[.agg #[.int .i64 r, .int .i64 c, u, .int .i64 r', .int .i64 c', v], .agg #[.int .i64 r, .int .i64 c, u', .int .i64 r', .int .i64 c', v']] w0 fun e w' => e = .returned (.bool true) ∧ Below w0.heap.size w0 w' := by
  obtain ⟨L, HL, S⟩ := st_start w0; have F : True := trivial
  go_enter Try.func119, Try.ntmps119
  go_wp2_with (first | (refine wpList_box rfl S _ _ rfl ?_; intro g w L hM T; clear F S; (try rw [HL.out] at hM); clear HL; (try simp [Act.put, Act.eval, Value.cells, splice] at hM); have HL := Lib.hid hM; clear hM; have S := T; clear T; have F := factsAll HL S; (try simp only [factsOf, cellsFrom, and_true, true_and, Nat.reduceAdd] at F))  | (refine wpList_store_box rfl S _ _ _ rfl 0 _ _ _ _ (atOf HL rfl) rfl _ rfl (by kernel_rfl) rfl rfl ?_; intro w L hM T; clear F S; (try rw [HL.out] at hM); clear HL; (try simp [Act.put, Act.eval, Value.cells, splice] at hM); have HL := Lib.hid hM; clear hM; have S := T; clear T; have F := factsAll HL S; (try simp only [factsOf, cellsFrom, and_true, true_and, Nat.reduceAdd] at F)) | (refine wpList_store_box rfl S _ _ _ rfl 1 _ _ _ _ (atOf HL rfl) rfl _ rfl (by kernel_rfl) rfl rfl ?_; intro w L hM T; clear F S; (try rw [HL.out] at hM); clear HL; (try simp [Act.put, Act.eval, Value.cells, splice] at hM); have HL := Lib.hid hM; clear hM; have S := T; clear T; have F := factsAll HL S; (try simp only [factsOf, cellsFrom, and_true, true_and, Nat.reduceAdd] at F)) | (refine wpList_store_box rfl S _ _ _ rfl 2 _ _ _ _ (atOf HL rfl) rfl _ rfl (by kernel_rfl) rfl rfl ?_; intro w L hM T; clear F S; (try rw [HL.out] at hM); clear HL; (try simp [Act.put, Act.eval, Value.cells, splice] at hM); have HL := Lib.hid hM; clear hM; have S := T; clear T; have F := factsAll HL S; (try simp only [factsOf, cellsFrom, and_true, true_and, Nat.reduceAdd] at F)) | (refine wpList_store_box rfl S _ _ _ rfl 3 _ _ _ _ (atOf HL rfl) rfl _ rfl (by kernel_rfl) rfl rfl ?_; intro w L hM T; clear F S; (try rw [HL.out] at hM); clear HL; (try simp [Act.put, Act.eval, Value.cells, splice] at hM); have HL := Lib.hid hM; clear hM; have S := T; clear T; have F := factsAll HL S; (try simp only [factsOf, cellsFrom, and_true, true_and, Nat.reduceAdd] at F))  | (go_at_call 118; refine (C_eqMatrix _ _ _ _ _ _ (by first | exact hu.at_ S | exact hv.at_ S) (by first | exact hu'.at_ S | exact hv'.at_ S)).mono ?_; rintro e w ⟨rfl, hb⟩; replace S := S.grow hb; clear hb))
  go_ret
  exact ⟨rfl, S.below⟩
end Go.Proofs.Ytdfpceobfficfaa
