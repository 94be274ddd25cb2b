/-
  Rows of shared matrices scaled: the plain function; the program's helpers.
-/
import Derived.Test.YtjihfeffonadmaaMulW
import Derived.Test.YtjihfeffonadmaaMatS
namespace Go.Proofs.Ytjihfeffonadmaa
set_option linter.unusedSimpArgs false
set_option linter.unusedVariables false
set_option linter.unusedSectionVars false
open Go Go.RowKit
set_option maxHeartbeats 8000000
set_option maxRecDepth 20000
/-- What is scaled: the values of a shared matrix and of a shared column, the number of columns, the seed. -/
structure Scl where
  xs : List Int
  ys : List Int
  us : List Int
  vs : List Int
  C : Nat
  s : Int
def Scl.t (z : Scl) (k : Nat) : Tri := triAt (seedAt z.s (5 * k))
def Scl.x (z : Scl) (k : Nat) : Sh := ⟨z.xs.getD k 0, z.ys.getD k 0⟩
def Scl.y (z : Scl) (k : Nat) : Sh := ⟨z.us.getD (k / z.C) 0, z.vs.getD (k / z.C) 0⟩
def Scl.d (z : Scl) (k : Nat) : Int := dOf (z.x k) (z.t k)
def Scl.e (z : Scl) (k : Nat) : Int := eOf (z.y k) (z.t k)
def Scl.p (z : Scl) (k : Nat) : Sh := mulV (z.t k) (z.d k) (z.e k)
def Scl.opened (z : Scl) : Nat → List Int
  | 0 => []
  | k + 1 => z.opened k ++ [z.d k, z.e k]
theorem Scl.opened_length (z : Scl) : ∀ k, (z.opened k).length = 2 * k
  | 0 => rfl
  | k + 1 => by rw [Scl.opened, List.length_append, z.opened_length k]; rfl
def Scl.fir (z : Scl) (n : Nat) : List Int := tab n fun k => (z.p k).a
def Scl.sec (z : Scl) (n : Nat) : List Int := tab n fun k => (z.p k).b
def Scl.firTo (z : Scl) (n k : Nat) : List Int := tab n fun q => if q < k then (z.p q).a else 0
def Scl.secTo (z : Scl) (n k : Nat) : List Int := tab n fun q => if q < k then (z.p q).b else 0
theorem to_set (f : Nat → Int) (n k : Nat) : (tab n fun q => if q < k then f q else 0).set k (f k) = tab n fun q => if q < k + 1 then f q else 0 := by
  rw [tab_set]
  refine tab_congr _ _ _ fun q _ => ?_
  by_cases h : q = k
  · subst h; simp
  · simp only [h, if_false]
    by_cases h2 : q < k
    · rw [if_pos h2, if_pos (by omega)]
    · rw [if_neg h2, if_neg (by omega)]
theorem to_zero (f : Nat → Int) (n : Nat) : (tab n fun q => if q < 0 then f q else 0) = tab n fun _ => 0 := tab_congr _ _ _ fun q _ => by simp
theorem to_full (f : Nat → Int) (n : Nat) : (tab n fun q => if q < n then f q else 0) = tab n f := tab_congr _ _ _ fun q h => by simp [h]
def scaleOk (m col : SMx) (s : Int) : Bool := m.ok && col.ok && seedOk s && decide (col.a.c = 1) && decide (col.a.r = m.a.r)
structure Scd where
  m : SMx
  os : List Int
  last : Int
def scaleS (m col : SMx) (s : Int) : Scd :=
  if scaleOk m col s then ⟨⟨⟨m.a.r, m.a.c, (Scl.mk m.a.xs m.b.xs col.a.xs col.b.xs m.a.c.toNat s).fir m.a.xs.length⟩, ⟨m.a.r, m.a.c, (Scl.mk m.a.xs m.b.xs col.a.xs col.b.xs m.a.c.toNat s).sec m.a.xs.length⟩⟩,
    (Scl.mk m.a.xs m.b.xs col.a.xs col.b.xs m.a.c.toNat s).opened m.a.xs.length, seedAt s (5 * m.a.xs.length)⟩
  else ⟨SMx.zero, [], 0⟩
theorem scaleS_not {m col : SMx} {s : Int} (h : scaleOk m col s = false) : scaleS m col s = ⟨SMx.zero, [], 0⟩ := by simp [scaleS, h]
/-- A shared matrix, what was opened, the last seed. -/
def MakesScl (w0 : World) (z : Scd) (e : Ending) (w : World) : Prop :=
  ∃ u v o, e = .returned (.tuple #[.agg #[.int .i64 z.m.a.r, .int .i64 z.m.a.c, u, .int .i64 z.m.b.r, .int .i64 z.m.b.c, v], o, .int .i64 z.last]) ∧
    St w0 w [.row 3 1 o z.os.length (ints z.os), .row 3 1 v z.m.b.xs.length (ints z.m.b.xs), .row 3 1 u z.m.a.xs.length (ints z.m.a.xs)]
theorem St.nilScl {w0 w : World} {L : List Ent} (S : St w0 w L) (t : TypeId) : St w0 w [.row t 1 (.slice none 0 0) 0 [], .row t 1 (.slice none 0 0) 0 [], .row t 1 (.slice none 0 0) 0 []] :=
  (((S.nilRow t 1).nilRow t 1).nilRow t 1).sub (.cons_cons _ (.cons_cons _ (.cons_cons _ (List.nil_sublist _))))
theorem seedAt_add (s : Int) (a : Nat) : ∀ b, seedAt (seedAt s a) b = seedAt s (a + b)
  | 0 => rfl
  | b + 1 => by show nextS (seedAt (seedAt s a) b) = nextS (seedAt s (a + b)); rw [seedAt_add s a b]
theorem like_parts {r c : Int} {xs : List Int} {r' c' : Int} {ys : List Int} (h : likeMx ⟨r, c, xs⟩ ⟨r', c', ys⟩ = true) :
    ∃ R C N : Nat, r = R ∧ c = C ∧ r' = R ∧ c' = C ∧ 1 ≤ R ∧ R ≤ 5 ∧ 1 ≤ C ∧ C ≤ 5 ∧ R * C = N ∧ xs.length = N ∧ ys.length = N ∧ N ≤ 25 ∧ xs.all rv = true ∧ ys.all rv = true := by
  simp only [likeMx, Bool.and_eq_true, decide_eq_true_eq] at h
  obtain ⟨⟨⟨h1, h2⟩, h3⟩, h4⟩ := h
  obtain ⟨R, C, N, e0, r1, r2, c1, c2, hRC, hN, hN2, hall⟩ := Mx.ok_nat h1
  obtain ⟨e1, e2⟩ : r = R ∧ c = C := by injection e0 with e1 e2 _; exact ⟨e1, e2⟩
  obtain ⟨R', C', N', e0', _, _, _, _, hRC', hN', _, hall'⟩ := Mx.ok_nat h2
  obtain ⟨e1', e2'⟩ : r' = R' ∧ c' = C' := by injection e0' with e1 e2 _; exact ⟨e1, e2⟩
  have hr : R' = R := by
    have : (R' : Int) = R := by rw [← e1', ← h3, e1]
    exact Int.ofNat.inj this
  have hc : C' = C := by
    have : (C' : Int) = C := by rw [← e2', ← h4, e2]
    exact Int.ofNat.inj this
  subst hr hc
  exact ⟨R', C', N, e1, e2, e1', e2', r1, r2, c1, c2, hRC, hN, by rw [← hRC, hRC']; exact hN', hN2, hall, hall'⟩
theorem C_sharesAt (r c : Int) (xs : List Int) (r' c' : Int) (ys : List Int) (u v : Value) (k : Nat) (w0 : World) (h : Ints w0 u xs) (h' : Ints w0 v ys) (hk : k < xs.length) (hk' : k < ys.length) :
    Calls Try.prog 54 #[.agg #[.int .i64 r, .int .i64 c, u, .int .i64 r', .int .i64 c', v], .int .i64 k] w0 fun e w' => e = .returned (.agg #[.int .i64 (xs.getD k 0), .int .i64 (ys.getD k 0)]) ∧ Below w0.heap.size w0 w' := by
  obtain ⟨_, A, cap, rfl, hcap, hmax, hA⟩ := h
  obtain ⟨_, A2, cap2, rfl, hcap2, hmax2, hA2⟩ := h'
  obtain ⟨b, off, rfl, hb, hc⟩ := hA (by omega)
  obtain ⟨b2, off2, rfl, hb2, hc2⟩ := hA2 (by omega)
  have D := Lib.hid (hc k _ (ints_getD xs k hk))
  have D2 := Lib.hid (hc2 k _ (ints_getD ys k hk'))
  clear hc hc2 hA hA2
  generalize xs.getD k 0 = x at D ⊢
  generalize ys.getD k 0 = y at D2 ⊢
  obtain ⟨L, HL, S⟩ := st_start w0; have F : True := trivial
  go_enter Try.func54, Try.ntmps54
  go_upto_region 1 with (first | (refine wpList_box rfl S _ _ rfl ?_; intro g w L hM T; clear F S; (try rw [HL.out] at hM); clear HL; (try simp [Act.put, Act.eval, Value.cells, splice] at hM); have HL := Lib.hid hM; clear hM; have S := T; clear T; have F := factsAll HL S; (try simp only [factsOf, cellsFrom, and_true, true_and, Nat.reduceAdd] at F)) | (refine wpList_alloc rfl S 69 _ rfl zSh ?_; intro g w L hM T; clear F S; (try rw [HL.out] at hM); clear HL; (try simp [Act.put, Act.eval, Value.cells, splice] at hM); have HL := Lib.hid hM; clear hM; have S := T; clear T; have F := factsAll HL S; (try simp only [factsOf, cellsFrom, and_true, true_and, Nat.reduceAdd] at F)))
  have d1 := fun w' (S' : St w0 w' L) => (S'.below.cell (p := ⟨b, off + k, none⟩) hb).trans D.out
  have d2 := fun w' (S' : St w0 w' L) => (S'.below.cell (p := ⟨b2, off2 + k, none⟩) hb2).trans D2.out
  have HL0 := HL; have F0 := F; refine wp_region_tree (S := fun w' => St w0 w' L) (.calm 0 (.calm 1 (.calm 2 (.calm 3 (.calm 4 (.calm 5 (.calm 6 (.calm 7 (.calm 8 (.calm 9 (.calm 10 (.calm 11 (.calm 12 (.act 13 .fin .stop)))))))))))))) (by kernel_rfl) (by kernel_rfl) (by kernel_rfl) (by intro c a d v w h; cases d <;> exact h) ?_; replace S := S.drew
  repeat (first | (first | (refine tree_calm (v := ?_) ?_ rfl (by decide +kernel) rfl ?_ ?_; rotate_left; (focus (first | exact S | (refine S.sub (subL HL0 HL ?_); (repeat (first | exact List.Sublist.refl _ | apply List.Sublist.cons)); done))); (focus (intro w' hS'; (try dsimp only at hS'); go_simp; try rfl)); (try simp only [Act.put, List.setIfInBounds_toArray, List.set_cons_zero, List.set_cons_succ])) | (refine tree_any (v := ?_) ?_ rfl rfl ?_ ?_; rotate_left; (focus (first | exact S | (refine S.sub (subL HL0 HL ?_); (repeat (first | exact List.Sublist.refl _ | apply List.Sublist.cons)); done))); (focus (intro w'; go_simp; try rfl)); (try simp only [Act.put, List.setIfInBounds_toArray, List.set_cons_zero, List.set_cons_succ]))) | (refine tree_skip ?_ rfl rfl ?_; (focus (first | exact S | (refine S.sub (subL HL0 HL ?_); (repeat (first | exact List.Sublist.refl _ | apply List.Sublist.cons)); done))); (try simp only [Act.put, List.setIfInBounds_toArray, List.set_cons_zero, List.set_cons_succ])) | (refine tree_act rfl rfl ?_ tree_stop; intro K hK; (refine wp_store_box S _ _ _ rfl 0 _ _ _ _ (atOf HL rfl) rfl _ rfl (by kernel_rfl) rfl rfl ?_; intro w L hM T; clear F S; (try rw [HL.out] at hM); clear HL; (try simp [Act.put, Act.eval, Value.cells, splice] at hM); have HL := Lib.hid hM; clear hM; have S := T; clear T; have F := factsAll HL S; (try simp only [factsOf, cellsFrom, and_true, true_and, Nat.reduceAdd] at F)); (refine hK.out _ _ ?_ ?_; (focus (first | exact fun _ => S | (intro _; refine S.sub (subL HL0 HL ?_); (repeat (first | exact List.Sublist.refl _ | apply List.Sublist.cons)); done) | (refine sink_no ?_; kernel_rfl))); clear hK K; (try simp only [Act.put, List.setIfInBounds_toArray, List.set_cons_zero, List.set_cons_succ]))) | (refine tree_act rfl rfl ?_ tree_stop; intro K hK; go_wp2_with (first | fail); (refine hK.out _ _ ?_ ?_; (focus (first | exact fun _ => S | (intro _; refine S.sub (subL HL0 HL ?_); (repeat (first | exact List.Sublist.refl _ | apply List.Sublist.cons)); done) | (refine sink_no ?_; kernel_rfl))); clear hK K; (try simp only [Act.put, List.setIfInBounds_toArray, List.set_cons_zero, List.set_cons_succ]))))
  refine tree_fin ?_
  go_wp2
  ((try simp only [Exit.inBlock, Exit.then]); refine ret1 rfl (resCell S HL 0 rfl rfl (by kernel_rfl)) rfl ?_)
  exact ⟨rfl, S.below⟩
theorem C_put (R0 : List Ent) (p q N : Nat) (r c r' c' : Int) (ga gb ca cb : Nat) (xs ys : List Int) (k : Nat) (x y : Int) (w0 w1 : World) (S : St w0 w1 R0) (h : At R0 p (.row 3 1 (.slice (some ⟨ga, 0, none⟩) N ca) N (ints xs)))
    (h' : At R0 q (.row 3 1 (.slice (some ⟨gb, 0, none⟩) N cb) N (ints ys))) (hpq : p ≠ q) (hk : k < N) :
    Calls Try.prog 55 #[.agg #[.int .i64 r, .int .i64 c, .slice (some ⟨ga, 0, none⟩) N ca, .int .i64 r', .int .i64 c', .slice (some ⟨gb, 0, none⟩) N cb], .int .i64 k, .agg #[.int .i64 x, .int .i64 y]] w1 fun e w' => (∃ u, e = .returned u) ∧
      St w0 w' ((R0.set p (.row 3 1 (.slice (some ⟨ga, 0, none⟩) N ca) N (ints (xs.set k x)))).set q (.row 3 1 (.slice (some ⟨gb, 0, none⟩) N cb) N (ints (ys.set k y)))) := by
  obtain ⟨L, HL⟩ : ∃ L, Hid (L = R0) := ⟨_, Lib.hid rfl⟩
  rw [← HL.out] at S
  have F : True := trivial
  obtain ⟨hc1, hc2⟩ : N ≤ ca ∧ ca ≤ maxLen := by
    obtain ⟨_, _, cA, eA, hc1, hc2, _⟩ := Sees.row S (show At L p _ from by rw [HL.out]; exact h)
    injection eA with _ _ e3
    subst e3
    exact ⟨hc1, hc2⟩
  obtain ⟨hc3, hc4⟩ : N ≤ cb ∧ cb ≤ maxLen := by
    obtain ⟨_, _, cA, eA, hc1, hc2, _⟩ := Sees.row S (show At L q _ from by rw [HL.out]; exact h')
    injection eA with _ _ e3
    subst e3
    exact ⟨hc1, hc2⟩
  unfold maxLen at hc2 hc4
  rw [ints_set, ints_set]
  have h2 : At (R0.set p (.row 3 1 (.slice (some ⟨ga, 0, none⟩) N ca) N ((ints xs).set k (.int .i64 x)))) q (.row 3 1 (.slice (some ⟨gb, 0, none⟩) N cb) N (ints ys)) := by
    unfold At; rw [List.getElem?_set_ne hpq]; exact h'
  have H1 := Lib.hid h
  have H2 := Lib.hid h2
  clear h h2 h'
  go_enter Try.func55, Try.ntmps55
  go_upto_region 2 with (first | (refine wpList_box rfl S _ _ rfl ?_; intro g w L hM T; clear F S; (try rw [HL.out] at hM); clear HL; (try simp [Act.put, Act.eval, Value.cells, splice] at hM); have HL := Lib.hid hM; clear hM; have S := T; clear T; have F := factsAll HL S; (try simp only [factsOf, cellsFrom, and_true, true_and, Nat.reduceAdd] at F)) | (refine wpList_store_row rfl S _ _ _ rfl (p + 2) _ _ _ _ _ _ _ (atOf HL (At.cons (At.cons H1.out))) rfl _ rfl (by kernel_rfl) rfl (by omega) ?_; intro w L hM T; clear F S; (try rw [HL.out] at hM); clear HL; (try simp [Act.put, Act.eval, Value.cells, splice] at hM); have HL := Lib.hid hM; clear hM; have S := T; clear T; have F := factsAll HL S; (try simp only [factsOf, cellsFrom, and_true, true_and, Nat.reduceAdd] at F)))
  go_wp2_with (first | (refine wpList_store_row rfl S _ _ _ rfl (q + 2) _ _ _ _ _ _ _ (atOf HL (At.cons (At.cons H2.out))) rfl _ rfl (by kernel_rfl) rfl (by omega) ?_; intro w L hM T; clear F S; (try rw [HL.out] at hM); clear HL; (try simp [Act.put, Act.eval, Value.cells, splice] at hM); have HL := Lib.hid hM; clear hM; have S := T; clear T; have F := factsAll HL S; (try simp only [factsOf, cellsFrom, and_true, true_and, Nat.reduceAdd] at F)))
  go_end0
  rw [HL.out] at S
  exact ⟨⟨_, rfl⟩, S.sub (.cons _ (.cons _ (.refl _)))⟩
theorem C_emptyShared (R C N : Nat) (w0 : World) (hN : R * C = N) (hN2 : N ≤ 25) : Calls Try.prog 51 #[.int .i64 R, .int .i64 C] w0 (MakesSMx w0 R C (tab N fun _ => 0) R C (tab N fun _ => 0)) := by
  have CE := fun w => C_emptyMatrix R C N w hN hN2
  unfold MakesMx at CE
  unfold MakesSMx
  rw [tab_length] at CE ⊢
  generalize (tab N fun _ => 0) = zs at CE ⊢
  obtain ⟨L, HL, S⟩ := st_start w0; have F : True := trivial
  go_enter Try.func51, Try.ntmps51
  go_wp2_with (first | (refine wpList_box rfl S _ _ rfl ?_; intro g w L hM T; clear F S; (try rw [HL.out] at hM); clear HL; (try simp [Act.put, Act.eval, Value.cells, splice] at hM); have HL := Lib.hid hM; clear hM; have S := T; clear T; have F := factsAll HL S; (try simp only [factsOf, cellsFrom, and_true, true_and, Nat.reduceAdd] at F)) | (refine wpList_alloc rfl S 30 _ rfl zSMx ?_; intro g w L hM T; clear F S; (try rw [HL.out] at hM); clear HL; (try simp [Act.put, Act.eval, Value.cells, splice] at hM); have HL := Lib.hid hM; clear hM; have S := T; clear T; have F := factsAll HL S; (try simp only [factsOf, cellsFrom, and_true, true_and, Nat.reduceAdd] at F)) | (refine wpList_store_box rfl S _ _ _ rfl 0 _ _ _ _ (atOf HL rfl) rfl _ rfl (by kernel_rfl) rfl rfl ?_; intro w L hM T; clear F S; (try rw [HL.out] at hM); clear HL; (try simp [Act.put, Act.eval, Value.cells, splice] at hM); have HL := Lib.hid hM; clear hM; have S := T; clear T; have F := factsAll HL S; (try simp only [factsOf, cellsFrom, and_true, true_and, Nat.reduceAdd] at F)) | (refine wpList_store_box rfl S _ _ _ rfl 1 _ _ _ _ (atOf HL rfl) rfl _ rfl (by kernel_rfl) rfl rfl ?_; intro w L hM T; clear F S; (try rw [HL.out] at hM); clear HL; (try simp [Act.put, Act.eval, Value.cells, splice] at hM); have HL := Lib.hid hM; clear hM; have S := T; clear T; have F := factsAll HL S; (try simp only [factsOf, cellsFrom, and_true, true_and, Nat.reduceAdd] at F)) | (refine wpList_store_box rfl S _ _ _ rfl 2 _ _ _ _ (atOf HL rfl) rfl _ rfl (by kernel_rfl) rfl rfl ?_; intro w L hM T; clear F S; (try rw [HL.out] at hM); clear HL; (try simp [Act.put, Act.eval, Value.cells, splice] at hM); have HL := Lib.hid hM; clear hM; have S := T; clear T; have F := factsAll HL S; (try simp only [factsOf, cellsFrom, and_true, true_and, Nat.reduceAdd] at F)) | (refine wpList_store_box rfl S _ _ _ rfl 3 _ _ _ _ (atOf HL rfl) rfl _ rfl (by kernel_rfl) rfl rfl ?_; intro w L hM T; clear F S; (try rw [HL.out] at hM); clear HL; (try simp [Act.put, Act.eval, Value.cells, splice] at hM); have HL := Lib.hid hM; clear hM; have S := T; clear T; have F := factsAll HL S; (try simp only [factsOf, cellsFrom, and_true, true_and, Nat.reduceAdd] at F))  | (go_at_call 65; refine (CE _).mono ?_; rintro e w ⟨u, rfl, T0⟩; obtain ⟨L, hM, T⟩ := st_name (S.call T0); clear T0; clear F S; (try rw [HL.out] at hM); clear HL; (try simp [Act.put, Act.eval, Value.cells, splice] at hM); have HL := Lib.hid hM; clear hM; have S := T; clear T; have F := factsAll HL S; (try simp only [factsOf, cellsFrom, and_true, true_and, Nat.reduceAdd] at F); obtain ⟨A', cap', rfl, hcap', hmax'⟩ := S.sliceOf (atOf HL (p := 0) rfl)))
  ((try simp only [Exit.inBlock, Exit.then]); refine ret1 rfl (resCell S HL 2 rfl rfl (by kernel_rfl)) rfl ?_)
  exact ⟨_, _, rfl, (by rw [HL.out] at S; exact S.sub (by repeat (first | exact .refl _ | exact List.nil_sublist _ | apply List.Sublist.cons_cons | apply List.Sublist.cons)))⟩
end Go.Proofs.Ytjihfeffonadmaa
