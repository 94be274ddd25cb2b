/-
  Contract: the reference's hidden triples.
-/
import Derived.Test.YtdgeiooacghcoaaHid
namespace Go.Proofs.Ytdgeiooacghcoaa
set_option linter.unusedSimpArgs false
set_option linter.unusedVariables false
set_option linter.unusedSectionVars false
open Go Go.RowKit
set_option maxHeartbeats 8000000
set_option maxRecDepth 20000
theorem hid_bad {x y : Sh} {d e : Int} {fs : List Int} {k : Nat} (hk : k < fs.length) (h : rv (fs.getD k 0) = false) : hidOk x y d e fs = false := by
  have : fs.all rv = false := by
    rw [List.all_eq_false]
    refine ⟨fs.getD k 0, ?_, by rw [h]; simp⟩
    rw [List.getD_eq_getElem?_getD, List.getElem?_eq_getElem hk]
    exact List.getElem_mem hk
  simp [hidOk, this]
theorem C_spec_HiddenTriple (a b c d x y : Int) (v : Value) (fs : List Int) (w0 : World) (hv : Ints w0 v fs) :
    Calls Try.prog 40 #[.agg #[.int .i64 a, .int .i64 b], .agg #[.int .i64 c, .int .i64 d], .int .i64 x, .int .i64 y, v] w0 fun e w' => e = .returned (.tuple #[.agg #[.int .i64 (hidT ⟨a, b⟩ ⟨c, d⟩ x y fs).a.a, .int .i64 (hidT ⟨a, b⟩ ⟨c, d⟩ x y fs).a.b, .int .i64 (hidT ⟨a, b⟩ ⟨c, d⟩ x y fs).b.a, .int .i64 (hidT ⟨a, b⟩ ⟨c, d⟩ x y fs).b.b, .int .i64 (hidT ⟨a, b⟩ ⟨c, d⟩ x y fs).c.a, .int .i64 (hidT ⟨a, b⟩ ⟨c, d⟩ x y fs).c.b], .bool (hidOk ⟨a, b⟩ ⟨c, d⟩ x y fs)]) ∧ Below w0.heap.size w0 w' := by
  obtain ⟨hl0, A, cap, rfl, hcap, hmax, hA0⟩ := hv
  have HA := Lib.hid hA0
  clear hl0 hA0
  unfold maxLen at hmax
  obtain ⟨n, hx⟩ : ∃ n, fs.length = n := ⟨_, rfl⟩
  rw [hx] at HA hcap ⊢
  have HX := Lib.hid hx
  clear hx
  cases h1 : Sh.ok ⟨a, b⟩ with
  | false =>
    have z : hidOk ⟨a, b⟩ ⟨c, d⟩ x y fs = false := by simp [hidOk, h1]
    rw [hid_not z, z]
    clear z
    obtain ⟨L, HL, S⟩ := st_start w0; have F : True := trivial
    go_enter Try.func40, Try.ntmps40
    go_wp2_with (first | (refine wpList_box rfl S _ _ rfl ?_; intro g w L hM T; clear F S; (try rw [HL.out] at hM); clear HL; (try simp [Act.put, Act.eval, Value.cells, splice] at hM); have HL := Lib.hid hM; clear hM; have S := T; clear T; have F := factsAll HL S; (try simp only [factsOf, cellsFrom, and_true, true_and, Nat.reduceAdd] at F)) | (refine wpList_alloc rfl S 54 _ rfl zTri ?_; intro g w L hM T; clear F S; (try rw [HL.out] at hM); clear HL; (try simp [Act.put, Act.eval, Value.cells, splice] at hM); have HL := Lib.hid hM; clear hM; have S := T; clear T; have F := factsAll HL S; (try simp only [factsOf, cellsFrom, and_true, true_and, Nat.reduceAdd] at F)) | (refine wpList_store_box rfl S _ _ _ rfl 0 _ _ _ _ (atOf HL rfl) rfl _ rfl (by kernel_rfl) rfl rfl ?_; intro w L hM T; clear F S; (try rw [HL.out] at hM); clear HL; (try simp [Act.put, Act.eval, Value.cells, splice] at hM); have HL := Lib.hid hM; clear hM; have S := T; clear T; have F := factsAll HL S; (try simp only [factsOf, cellsFrom, and_true, true_and, Nat.reduceAdd] at F)) | (refine wpList_store_box rfl S _ _ _ rfl 1 _ _ _ _ (atOf HL rfl) rfl _ rfl (by kernel_rfl) rfl rfl ?_; intro w L hM T; clear F S; (try rw [HL.out] at hM); clear HL; (try simp [Act.put, Act.eval, Value.cells, splice] at hM); have HL := Lib.hid hM; clear hM; have S := T; clear T; have F := factsAll HL S; (try simp only [factsOf, cellsFrom, and_true, true_and, Nat.reduceAdd] at F)) | (refine wpList_store_box rfl S _ _ _ rfl 2 _ _ _ _ (atOf HL rfl) rfl _ rfl (by kernel_rfl) rfl rfl ?_; intro w L hM T; clear F S; (try rw [HL.out] at hM); clear HL; (try simp [Act.put, Act.eval, Value.cells, splice] at hM); have HL := Lib.hid hM; clear hM; have S := T; clear T; have F := factsAll HL S; (try simp only [factsOf, cellsFrom, and_true, true_and, Nat.reduceAdd] at F)) | (refine wpList_store_box rfl S _ _ _ rfl 3 _ _ _ _ (atOf HL rfl) rfl _ rfl (by kernel_rfl) rfl rfl ?_; intro w L hM T; clear F S; (try rw [HL.out] at hM); clear HL; (try simp [Act.put, Act.eval, Value.cells, splice] at hM); have HL := Lib.hid hM; clear hM; have S := T; clear T; have F := factsAll HL S; (try simp only [factsOf, cellsFrom, and_true, true_and, Nat.reduceAdd] at F)) | (go_at_call 82; refine (C_spec_SharedValid _ _ _).mono ?_; rintro e w ⟨rfl, hb⟩; replace S := S.grow hb; clear hb) | (go_at_call 81; refine (C_spec_RingValid _ _).mono ?_; rintro e w' ⟨rfl, rfl⟩) )
    refine ret2 rfl (resCell S HL 0 rfl rfl (by kernel_rfl)) (show _ = _ from rfl) rfl ?_
    exact ⟨rfl, S.below⟩
  | true =>
  cases h2 : Sh.ok ⟨c, d⟩ with
  | false =>
    have z : hidOk ⟨a, b⟩ ⟨c, d⟩ x y fs = false := by simp [hidOk, h2]
    rw [hid_not z, z]
    clear z
    obtain ⟨L, HL, S⟩ := st_start w0; have F : True := trivial
    go_enter Try.func40, Try.ntmps40
    go_wp2_with (first | (refine wpList_box rfl S _ _ rfl ?_; intro g w L hM T; clear F S; (try rw [HL.out] at hM); clear HL; (try simp [Act.put, Act.eval, Value.cells, splice] at hM); have HL := Lib.hid hM; clear hM; have S := T; clear T; have F := factsAll HL S; (try simp only [factsOf, cellsFrom, and_true, true_and, Nat.reduceAdd] at F)) | (refine wpList_alloc rfl S 54 _ rfl zTri ?_; intro g w L hM T; clear F S; (try rw [HL.out] at hM); clear HL; (try simp [Act.put, Act.eval, Value.cells, splice] at hM); have HL := Lib.hid hM; clear hM; have S := T; clear T; have F := factsAll HL S; (try simp only [factsOf, cellsFrom, and_true, true_and, Nat.reduceAdd] at F)) | (refine wpList_store_box rfl S _ _ _ rfl 0 _ _ _ _ (atOf HL rfl) rfl _ rfl (by kernel_rfl) rfl rfl ?_; intro w L hM T; clear F S; (try rw [HL.out] at hM); clear HL; (try simp [Act.put, Act.eval, Value.cells, splice] at hM); have HL := Lib.hid hM; clear hM; have S := T; clear T; have F := factsAll HL S; (try simp only [factsOf, cellsFrom, and_true, true_and, Nat.reduceAdd] at F)) | (refine wpList_store_box rfl S _ _ _ rfl 1 _ _ _ _ (atOf HL rfl) rfl _ rfl (by kernel_rfl) rfl rfl ?_; intro w L hM T; clear F S; (try rw [HL.out] at hM); clear HL; (try simp [Act.put, Act.eval, Value.cells, splice] at hM); have HL := Lib.hid hM; clear hM; have S := T; clear T; have F := factsAll HL S; (try simp only [factsOf, cellsFrom, and_true, true_and, Nat.reduceAdd] at F)) | (refine wpList_store_box rfl S _ _ _ rfl 2 _ _ _ _ (atOf HL rfl) rfl _ rfl (by kernel_rfl) rfl rfl ?_; intro w L hM T; clear F S; (try rw [HL.out] at hM); clear HL; (try simp [Act.put, Act.eval, Value.cells, splice] at hM); have HL := Lib.hid hM; clear hM; have S := T; clear T; have F := factsAll HL S; (try simp only [factsOf, cellsFrom, and_true, true_and, Nat.reduceAdd] at F)) | (refine wpList_store_box rfl S _ _ _ rfl 3 _ _ _ _ (atOf HL rfl) rfl _ rfl (by kernel_rfl) rfl rfl ?_; intro w L hM T; clear F S; (try rw [HL.out] at hM); clear HL; (try simp [Act.put, Act.eval, Value.cells, splice] at hM); have HL := Lib.hid hM; clear hM; have S := T; clear T; have F := factsAll HL S; (try simp only [factsOf, cellsFrom, and_true, true_and, Nat.reduceAdd] at F)) | (go_at_call 82; refine (C_spec_SharedValid _ _ _).mono ?_; rintro e w ⟨rfl, hb⟩; replace S := S.grow hb; clear hb) | (go_at_call 81; refine (C_spec_RingValid _ _).mono ?_; rintro e w' ⟨rfl, rfl⟩) )
    refine ret2 rfl (resCell S HL 0 rfl rfl (by kernel_rfl)) (show _ = _ from rfl) rfl ?_
    exact ⟨rfl, S.below⟩
  | true =>
  cases h3 : rv x with
  | false =>
    have z : hidOk ⟨a, b⟩ ⟨c, d⟩ x y fs = false := by simp [hidOk, h3]
    rw [hid_not z, z]
    clear z
    obtain ⟨L, HL, S⟩ := st_start w0; have F : True := trivial
    go_enter Try.func40, Try.ntmps40
    go_wp2_with (first | (refine wpList_box rfl S _ _ rfl ?_; intro g w L hM T; clear F S; (try rw [HL.out] at hM); clear HL; (try simp [Act.put, Act.eval, Value.cells, splice] at hM); have HL := Lib.hid hM; clear hM; have S := T; clear T; have F := factsAll HL S; (try simp only [factsOf, cellsFrom, and_true, true_and, Nat.reduceAdd] at F)) | (refine wpList_alloc rfl S 54 _ rfl zTri ?_; intro g w L hM T; clear F S; (try rw [HL.out] at hM); clear HL; (try simp [Act.put, Act.eval, Value.cells, splice] at hM); have HL := Lib.hid hM; clear hM; have S := T; clear T; have F := factsAll HL S; (try simp only [factsOf, cellsFrom, and_true, true_and, Nat.reduceAdd] at F)) | (refine wpList_store_box rfl S _ _ _ rfl 0 _ _ _ _ (atOf HL rfl) rfl _ rfl (by kernel_rfl) rfl rfl ?_; intro w L hM T; clear F S; (try rw [HL.out] at hM); clear HL; (try simp [Act.put, Act.eval, Value.cells, splice] at hM); have HL := Lib.hid hM; clear hM; have S := T; clear T; have F := factsAll HL S; (try simp only [factsOf, cellsFrom, and_true, true_and, Nat.reduceAdd] at F)) | (refine wpList_store_box rfl S _ _ _ rfl 1 _ _ _ _ (atOf HL rfl) rfl _ rfl (by kernel_rfl) rfl rfl ?_; intro w L hM T; clear F S; (try rw [HL.out] at hM); clear HL; (try simp [Act.put, Act.eval, Value.cells, splice] at hM); have HL := Lib.hid hM; clear hM; have S := T; clear T; have F := factsAll HL S; (try simp only [factsOf, cellsFrom, and_true, true_and, Nat.reduceAdd] at F)) | (refine wpList_store_box rfl S _ _ _ rfl 2 _ _ _ _ (atOf HL rfl) rfl _ rfl (by kernel_rfl) rfl rfl ?_; intro w L hM T; clear F S; (try rw [HL.out] at hM); clear HL; (try simp [Act.put, Act.eval, Value.cells, splice] at hM); have HL := Lib.hid hM; clear hM; have S := T; clear T; have F := factsAll HL S; (try simp only [factsOf, cellsFrom, and_true, true_and, Nat.reduceAdd] at F)) | (refine wpList_store_box rfl S _ _ _ rfl 3 _ _ _ _ (atOf HL rfl) rfl _ rfl (by kernel_rfl) rfl rfl ?_; intro w L hM T; clear F S; (try rw [HL.out] at hM); clear HL; (try simp [Act.put, Act.eval, Value.cells, splice] at hM); have HL := Lib.hid hM; clear hM; have S := T; clear T; have F := factsAll HL S; (try simp only [factsOf, cellsFrom, and_true, true_and, Nat.reduceAdd] at F)) | (go_at_call 82; refine (C_spec_SharedValid _ _ _).mono ?_; rintro e w ⟨rfl, hb⟩; replace S := S.grow hb; clear hb) | (go_at_call 81; refine (C_spec_RingValid _ _).mono ?_; rintro e w' ⟨rfl, rfl⟩) )
    refine ret2 rfl (resCell S HL 0 rfl rfl (by kernel_rfl)) (show _ = _ from rfl) rfl ?_
    exact ⟨rfl, S.below⟩
  | true =>
  cases h4 : rv y with
  | false =>
    have z : hidOk ⟨a, b⟩ ⟨c, d⟩ x y fs = false := by simp [hidOk, h4]
    rw [hid_not z, z]
    clear z
    obtain ⟨L, HL, S⟩ := st_start w0; have F : True := trivial
    go_enter Try.func40, Try.ntmps40
    go_wp2_with (first | (refine wpList_box rfl S _ _ rfl ?_; intro g w L hM T; clear F S; (try rw [HL.out] at hM); clear HL; (try simp [Act.put, Act.eval, Value.cells, splice] at hM); have HL := Lib.hid hM; clear hM; have S := T; clear T; have F := factsAll HL S; (try simp only [factsOf, cellsFrom, and_true, true_and, Nat.reduceAdd] at F)) | (refine wpList_alloc rfl S 54 _ rfl zTri ?_; intro g w L hM T; clear F S; (try rw [HL.out] at hM); clear HL; (try simp [Act.put, Act.eval, Value.cells, splice] at hM); have HL := Lib.hid hM; clear hM; have S := T; clear T; have F := factsAll HL S; (try simp only [factsOf, cellsFrom, and_true, true_and, Nat.reduceAdd] at F)) | (refine wpList_store_box rfl S _ _ _ rfl 0 _ _ _ _ (atOf HL rfl) rfl _ rfl (by kernel_rfl) rfl rfl ?_; intro w L hM T; clear F S; (try rw [HL.out] at hM); clear HL; (try simp [Act.put, Act.eval, Value.cells, splice] at hM); have HL := Lib.hid hM; clear hM; have S := T; clear T; have F := factsAll HL S; (try simp only [factsOf, cellsFrom, and_true, true_and, Nat.reduceAdd] at F)) | (refine wpList_store_box rfl S _ _ _ rfl 1 _ _ _ _ (atOf HL rfl) rfl _ rfl (by kernel_rfl) rfl rfl ?_; intro w L hM T; clear F S; (try rw [HL.out] at hM); clear HL; (try simp [Act.put, Act.eval, Value.cells, splice] at hM); have HL := Lib.hid hM; clear hM; have S := T; clear T; have F := factsAll HL S; (try simp only [factsOf, cellsFrom, and_true, true_and, Nat.reduceAdd] at F)) | (refine wpList_store_box rfl S _ _ _ rfl 2 _ _ _ _ (atOf HL rfl) rfl _ rfl (by kernel_rfl) rfl rfl ?_; intro w L hM T; clear F S; (try rw [HL.out] at hM); clear HL; (try simp [Act.put, Act.eval, Value.cells, splice] at hM); have HL := Lib.hid hM; clear hM; have S := T; clear T; have F := factsAll HL S; (try simp only [factsOf, cellsFrom, and_true, true_and, Nat.reduceAdd] at F)) | (refine wpList_store_box rfl S _ _ _ rfl 3 _ _ _ _ (atOf HL rfl) rfl _ rfl (by kernel_rfl) rfl rfl ?_; intro w L hM T; clear F S; (try rw [HL.out] at hM); clear HL; (try simp [Act.put, Act.eval, Value.cells, splice] at hM); have HL := Lib.hid hM; clear hM; have S := T; clear T; have F := factsAll HL S; (try simp only [factsOf, cellsFrom, and_true, true_and, Nat.reduceAdd] at F)) | (go_at_call 82; refine (C_spec_SharedValid _ _ _).mono ?_; rintro e w ⟨rfl, hb⟩; replace S := S.grow hb; clear hb) | (go_at_call 81; refine (C_spec_RingValid _ _).mono ?_; rintro e w' ⟨rfl, rfl⟩) )
    refine ret2 rfl (resCell S HL 0 rfl rfl (by kernel_rfl)) (show _ = _ from rfl) rfl ?_
    exact ⟨rfl, S.below⟩
  | true =>
  by_cases hn : n = 3
  rotate_left
  · have z : hidOk ⟨a, b⟩ ⟨c, d⟩ x y fs = false := by simp [hidOk, HX.out, hn]
    rw [hid_not z, z]
    clear z
    have hn' : ((n : Int) != 3) = true := by simp; omega
    obtain ⟨L, HL, S⟩ := st_start w0; have F : True := trivial
    go_enter Try.func40, Try.ntmps40
    go_wp2_with (first | (refine wpList_box rfl S _ _ rfl ?_; intro g w L hM T; clear F S; (try rw [HL.out] at hM); clear HL; (try simp [Act.put, Act.eval, Value.cells, splice] at hM); have HL := Lib.hid hM; clear hM; have S := T; clear T; have F := factsAll HL S; (try simp only [factsOf, cellsFrom, and_true, true_and, Nat.reduceAdd] at F)) | (refine wpList_alloc rfl S 54 _ rfl zTri ?_; intro g w L hM T; clear F S; (try rw [HL.out] at hM); clear HL; (try simp [Act.put, Act.eval, Value.cells, splice] at hM); have HL := Lib.hid hM; clear hM; have S := T; clear T; have F := factsAll HL S; (try simp only [factsOf, cellsFrom, and_true, true_and, Nat.reduceAdd] at F)) | (refine wpList_store_box rfl S _ _ _ rfl 0 _ _ _ _ (atOf HL rfl) rfl _ rfl (by kernel_rfl) rfl rfl ?_; intro w L hM T; clear F S; (try rw [HL.out] at hM); clear HL; (try simp [Act.put, Act.eval, Value.cells, splice] at hM); have HL := Lib.hid hM; clear hM; have S := T; clear T; have F := factsAll HL S; (try simp only [factsOf, cellsFrom, and_true, true_and, Nat.reduceAdd] at F)) | (refine wpList_store_box rfl S _ _ _ rfl 1 _ _ _ _ (atOf HL rfl) rfl _ rfl (by kernel_rfl) rfl rfl ?_; intro w L hM T; clear F S; (try rw [HL.out] at hM); clear HL; (try simp [Act.put, Act.eval, Value.cells, splice] at hM); have HL := Lib.hid hM; clear hM; have S := T; clear T; have F := factsAll HL S; (try simp only [factsOf, cellsFrom, and_true, true_and, Nat.reduceAdd] at F)) | (refine wpList_store_box rfl S _ _ _ rfl 2 _ _ _ _ (atOf HL rfl) rfl _ rfl (by kernel_rfl) rfl rfl ?_; intro w L hM T; clear F S; (try rw [HL.out] at hM); clear HL; (try simp [Act.put, Act.eval, Value.cells, splice] at hM); have HL := Lib.hid hM; clear hM; have S := T; clear T; have F := factsAll HL S; (try simp only [factsOf, cellsFrom, and_true, true_and, Nat.reduceAdd] at F)) | (refine wpList_store_box rfl S _ _ _ rfl 3 _ _ _ _ (atOf HL rfl) rfl _ rfl (by kernel_rfl) rfl rfl ?_; intro w L hM T; clear F S; (try rw [HL.out] at hM); clear HL; (try simp [Act.put, Act.eval, Value.cells, splice] at hM); have HL := Lib.hid hM; clear hM; have S := T; clear T; have F := factsAll HL S; (try simp only [factsOf, cellsFrom, and_true, true_and, Nat.reduceAdd] at F)) | (go_at_call 82; refine (C_spec_SharedValid _ _ _).mono ?_; rintro e w ⟨rfl, hb⟩; replace S := S.grow hb; clear hb) | (go_at_call 81; refine (C_spec_RingValid _ _).mono ?_; rintro e w' ⟨rfl, rfl⟩) )
    refine ret2 rfl (resCell S HL 0 rfl rfl (by kernel_rfl)) (show _ = _ from rfl) rfl ?_
    exact ⟨rfl, S.below⟩
  subst hn
  have H12 := Lib.hid (And.intro (And.intro h1 h2) (And.intro h3 h4))
  obtain ⟨gr, off, rfl, hg, hc0⟩ := HA.out (by omega)
  have HC := Lib.hid hc0
  clear hc0 HA
  obtain ⟨q, Q⟩ : ∃ q, hidT ⟨a, b⟩ ⟨c, d⟩ x y fs = q := ⟨_, rfl⟩
  obtain ⟨z, Z⟩ : ∃ z, hidOk ⟨a, b⟩ ⟨c, d⟩ x y fs = z := ⟨_, rfl⟩
  rw [Q, Z]
  have HQ := Lib.hid Q
  have HZ := Lib.hid Z
  clear Q Z
  obtain ⟨L, HL, S⟩ := st_start w0; have F : True := trivial
  go_enter Try.func40, Try.ntmps40
  go_upto_region 3 with (first | (refine wpList_box rfl S _ _ rfl ?_; intro g w L hM T; clear F S; (try rw [HL.out] at hM); clear HL; (try simp [Act.put, Act.eval, Value.cells, splice] at hM); have HL := Lib.hid hM; clear hM; have S := T; clear T; have F := factsAll HL S; (try simp only [factsOf, cellsFrom, and_true, true_and, Nat.reduceAdd] at F)) | (refine wpList_alloc rfl S 54 _ rfl zTri ?_; intro g w L hM T; clear F S; (try rw [HL.out] at hM); clear HL; (try simp [Act.put, Act.eval, Value.cells, splice] at hM); have HL := Lib.hid hM; clear hM; have S := T; clear T; have F := factsAll HL S; (try simp only [factsOf, cellsFrom, and_true, true_and, Nat.reduceAdd] at F)) | (go_at_call 82; refine (C_spec_SharedValid _ _ _).mono ?_; rintro e w ⟨rfl, hb⟩; replace S := S.grow hb; clear hb) | (go_at_call 81; refine (C_spec_RingValid _ _).mono ?_; rintro e w' ⟨rfl, rfl⟩))
  clear h1 h2 h3 h4
  go_wp2
  go_loopw [12] (fun i wr => ∃ (k : Nat), k ≤ 3 ∧ i = .int .i64 k ∧ Hid (∀ j, j < k → rv (fs.getD j 0) = true) ∧ St w0 wr L) (fun i _ => 3 - (intOf i).toNat)
  case atStart => exact ⟨0, Nat.zero_le _, rfl, Lib.hid (fun j hj => absurd hj (by omega)), S⟩
  case round =>
    clear S
    obtain ⟨k, hk, rfl, HO, S⟩ := hrel
    by_cases hlt : k < 3
    · have ck := (S.below.cell (p := ⟨gr, off + k, none⟩) hg).trans (HC.out k _ (ints_getD fs k (by rw [HX.out]; exact hlt)))
      cases hr : rv (fs.getD k 0) with
      | false =>
        have hz : z = false := by rw [← HZ.out]; exact hid_bad (by rw [HX.out]; exact hlt) hr
        have hq : q = Tri.zero := by rw [← HQ.out]; exact hid_not (HZ.out.trans hz)
        have HQZ := Lib.hid (And.intro hq hz)
        clear hq hz
        generalize fs.getD k 0 = t at ck hr
        go_wp2_with (first | (refine wpList_store_box rfl S _ _ _ rfl 0 _ _ _ _ (atOf HL rfl) rfl _ rfl (by kernel_rfl) rfl rfl ?_; intro w L hM T; clear F S; (try rw [HL.out] at hM); clear HL; (try simp [Act.put, Act.eval, Value.cells, splice] at hM); have HL := Lib.hid hM; clear hM; have S := T; clear T; have F := factsAll HL S; (try simp only [factsOf, cellsFrom, and_true, true_and, Nat.reduceAdd] at F)) | (go_at_call 81; refine (C_spec_RingValid _ _).mono ?_; rintro e w' ⟨rfl, rfl⟩))
        refine ret2 rfl (resCell S HL 0 rfl rfl (by kernel_rfl)) (show _ = _ from rfl) rfl ?_
        obtain ⟨rfl, rfl⟩ := HQZ.out
        exact ⟨rfl, S.below⟩
      | true =>
        have HR := Lib.hid hr
        generalize fs.getD k 0 = t at ck hr
        go_wp2_with (first | (go_at_call 81; refine (C_spec_RingValid _ _).mono ?_; rintro e w' ⟨rfl, rfl⟩))
        go_roundw
        case rel =>
          refine ⟨k + 1, by omega, by go_num, Lib.hid (fun j hj => ?_), S⟩
          rcases Nat.lt_or_ge j k with h | h
          · exact HO.out j h
          · obtain rfl : j = k := by omega
            exact HR.out
        case measure => simp [intOf]; omega
    · obtain rfl : k = 3 := by omega
      obtain ⟨f0, f1, f2, hfs⟩ := three_of HX.out
      subst hfs
      have r0 := HO.out 0 (by omega)
      have r1 := HO.out 1 (by omega)
      have r2 := HO.out 2 (by omega)
      obtain ⟨⟨e1, e2⟩, e3, e4⟩ := H12.out
      have ho := hidOk_three e1 e2 e3 e4 r0 r1 r2
      have hz := HZ.out.symm.trans ho
      have hq := HQ.out.symm.trans (hidT_three ho)
      have C0 := Lib.hid (HC.out 0 _ rfl)
      have C1 := Lib.hid (HC.out 1 _ rfl)
      have C2 := Lib.hid (HC.out 2 _ rfl)
      have HQZ := Lib.hid (And.intro hq hz)
      clear r0 r1 r2 e1 e2 e3 e4 ho hz hq HO
      go_upto_region 10 with (first | (go_at_call 98; refine (C_spec_JoinShares _ _ _).mono ?_; rintro e w ⟨rfl, hb⟩; replace S := S.grow hb; clear hb) | (go_at_call 97; refine (C_spec_SubRing _ _ _).mono ?_; rintro e w' ⟨rfl, rfl⟩))
      have hT := congrArg List.tail HL.out; simp only [List.tail_cons] at hT; obtain ⟨L1, hL1⟩ : ∃ M, M = L.tail := ⟨_, rfl⟩; rw [← hL1] at hT; have HL0 := Lib.hid hT; have S1 := S.sub (List.tail_sublist L); rw [← hL1] at S1; have F0 := factsAll HL0 S1; (try simp only [factsOf, cellsFrom, and_true, true_and, Nat.reduceAdd] at F0); clear S1 hL1 hT; (have d0 := fun w' (S' : St w0 w' L1) => (S'.below.cell (p := ⟨gr, off, none⟩) hg).trans C0.out); (have d1 := fun w' (S' : St w0 w' L1) => (S'.below.cell (p := ⟨gr, off + 1, none⟩) hg).trans C1.out); (have d2 := fun w' (S' : St w0 w' L1) => (S'.below.cell (p := ⟨gr, off + 2, none⟩) hg).trans C2.out); refine wp_region_tree (S := fun w' => St w0 w' L1) (.calm 0 (.calm 1 (.calm 2 (.calm 3 (.calm 5 (.calm 6 (.calm 7 (.calm 8 (.calm 10 (.calm 11 (.calm 13 (.calm 14 (.calm 15 (.act 4 (.act 9 (.act 12 (.act 16 (.calm 17 (.act 18 (.calm 19 .fin) .stop)) .stop) .stop) .stop) .stop)))))))))))))) (by kernel_rfl) (by kernel_rfl) (by kernel_rfl) (by intro c a d v w h; cases d <;> exact h) ?_; replace S := S.drew
      repeat' (first | (first | (refine tree_calm (v := ?_) ?_ rfl (by decide +kernel) rfl ?_ ?_; rotate_left; (focus (first | exact S | (refine S.sub (subL HL0 HL ?_); (repeat (first | exact List.Sublist.refl _ | apply List.Sublist.cons)); done))); (focus (intro w' hS'; (try dsimp only at hS'); go_simp; try rfl)); (try simp only [Act.put, List.setIfInBounds_toArray, List.set_cons_zero, List.set_cons_succ])) | (refine tree_any (v := ?_) ?_ rfl rfl ?_ ?_; rotate_left; (focus (first | exact S | (refine S.sub (subL HL0 HL ?_); (repeat (first | exact List.Sublist.refl _ | apply List.Sublist.cons)); done))); (focus (intro w'; go_simp; try rfl)); (try simp only [Act.put, List.setIfInBounds_toArray, List.set_cons_zero, List.set_cons_succ]))) | (refine tree_skip ?_ rfl rfl ?_; (focus (first | exact S | (refine S.sub (subL HL0 HL ?_); (repeat (first | exact List.Sublist.refl _ | apply List.Sublist.cons)); done))); (try simp only [Act.put, List.setIfInBounds_toArray, List.set_cons_zero, List.set_cons_succ])) | exact tree_stop | (refine tree_act rfl rfl ?_ ?_) | (intro K hK; (refine wp_store_box S _ _ _ rfl 0 _ _ _ _ (atOf HL rfl) rfl _ rfl (by kernel_rfl) rfl rfl ?_; intro w L hM T; clear F S; (try rw [HL.out] at hM); clear HL; (try simp [Act.put, Act.eval, Value.cells, splice] at hM); have HL := Lib.hid hM; clear hM; have S := T; clear T; have F := factsAll HL S; (try simp only [factsOf, cellsFrom, and_true, true_and, Nat.reduceAdd] at F)); (refine hK.out _ _ ?_ ?_; (focus (first | exact fun _ => S | (intro _; refine S.sub (subL HL0 HL ?_); (repeat (first | exact List.Sublist.refl _ | apply List.Sublist.cons)); done) | (refine sink_no ?_; kernel_rfl))); clear hK K; (try simp only [Act.put, List.setIfInBounds_toArray, List.set_cons_zero, List.set_cons_succ]))) | (intro K hK; go_wp2_with (first | (go_at_call 92; refine (C_spec_SplitNumber _ _ _).mono ?_; rintro e w ⟨rfl, hb⟩; replace S := S.grow hb; clear hb) | (go_at_call 93; refine (C_spec_MulRing _ _ _).mono ?_; rintro e w' ⟨rfl, rfl⟩)); (refine hK.out _ _ ?_ ?_; (focus (first | exact fun _ => S | (intro _; refine S.sub (subL HL0 HL ?_); (repeat (first | exact List.Sublist.refl _ | apply List.Sublist.cons)); done) | (refine sink_no ?_; kernel_rfl))); clear hK K; (try simp only [Act.put, List.setIfInBounds_toArray, List.set_cons_zero, List.set_cons_succ]))))
      all_goals
        refine tree_fin ?_
        clear HL0 F0 d0 d1 d2
        go_wp2
        refine ret2 rfl (resCell S HL 0 rfl rfl (by kernel_rfl)) (show _ = _ from rfl) rfl ?_
        obtain ⟨rfl, rfl⟩ := HQZ.out
        exact ⟨rfl, S.below⟩
end Go.Proofs.Ytdgeiooacghcoaa
