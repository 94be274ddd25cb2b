/-
  Contracts: the sides behind layers, and behind a network (the reference's).
-/
import Derived.Test.YtdfpceobfficfaaLyL
import Derived.Test.YtdfpceobfficfaaLyY
namespace Go.Proofs.Ytdfpceobfficfaa
set_option linter.unusedSimpArgs false
set_option linter.unusedVariables false
set_option linter.unusedSectionVars false
open Go Go.RowKit
set_option maxHeartbeats 8000000
set_option maxRecDepth 20000
/-- The reference's sides behind a layer: 0 and 0 if it is not valid or does not fit. -/
def l16 (l : Ly) (r c : Int) : Int × Int := if l.ok then (l.sides r c).getD (0, 0) else (0, 0)
theorem C_l16Sides (v : Value) (kind : Int) (ms : List Mx) (r c a b : Int) (w0 : World) (h : SeesMs w0 v ms) (hz : l16 ⟨kind, ms⟩ r c = (a, b)) :
    Calls Try.prog 98 #[.agg #[.int .i64 kind, v], .int .i64 r, .int .i64 c] w0 fun e w' => e = .returned (.tuple #[.int .i64 a, .int .i64 b]) ∧ Below w0.heap.size w0 w' := by
  have H := Lib.hid h
  obtain ⟨A, cap, rfl, hcap, hmax, hA⟩ := h
  unfold l16 at hz
  cases hok : (Ly.mk kind ms).ok with
  | false =>
    rw [hok] at hz
    injection hz with h1 h2
    subst h1; subst h2
    have HO := Lib.hid hok
    clear hok hA
    obtain ⟨L, HL, S⟩ := st_start w0; have F : True := trivial
    go_enter Try.func98, Try.ntmps98
    go_wp2_with (first | (refine wpList_box rfl S _ _ rfl ?_; intro g w L hM T; clear F S; (try rw [HL.out] at hM); clear HL; (try simp [Act.put, Act.eval, Value.cells, splice] at hM); have HL := Lib.hid hM; clear hM; have S := T; clear T; have F := factsAll HL S; (try simp only [factsOf, cellsFrom, and_true, true_and, Nat.reduceAdd] at F))  | (refine wpList_store_box rfl S _ _ _ rfl 0 _ _ _ _ (atOf HL rfl) rfl _ rfl (by kernel_rfl) rfl rfl ?_; intro w L hM T; clear F S; (try rw [HL.out] at hM); clear HL; (try simp [Act.put, Act.eval, Value.cells, splice] at hM); have HL := Lib.hid hM; clear hM; have S := T; clear T; have F := factsAll HL S; (try simp only [factsOf, cellsFrom, and_true, true_and, Nat.reduceAdd] at F)) | (refine wpList_store_box rfl S _ _ _ rfl 1 _ _ _ _ (atOf HL rfl) rfl _ rfl (by kernel_rfl) rfl rfl ?_; intro w L hM T; clear F S; (try rw [HL.out] at hM); clear HL; (try simp [Act.put, Act.eval, Value.cells, splice] at hM); have HL := Lib.hid hM; clear hM; have S := T; clear T; have F := factsAll HL S; (try simp only [factsOf, cellsFrom, and_true, true_and, Nat.reduceAdd] at F)) | (refine wpList_store_box rfl S _ _ _ rfl 2 _ _ _ _ (atOf HL rfl) rfl _ rfl (by kernel_rfl) rfl rfl ?_; intro w L hM T; clear F S; (try rw [HL.out] at hM); clear HL; (try simp [Act.put, Act.eval, Value.cells, splice] at hM); have HL := Lib.hid hM; clear hM; have S := T; clear T; have F := factsAll HL S; (try simp only [factsOf, cellsFrom, and_true, true_and, Nat.reduceAdd] at F)) | (refine wpList_store_box rfl S _ _ _ rfl 3 _ _ _ _ (atOf HL rfl) rfl _ rfl (by kernel_rfl) rfl rfl ?_; intro w L hM T; clear F S; (try rw [HL.out] at hM); clear HL; (try simp [Act.put, Act.eval, Value.cells, splice] at hM); have HL := Lib.hid hM; clear hM; have S := T; clear T; have F := factsAll HL S; (try simp only [factsOf, cellsFrom, and_true, true_and, Nat.reduceAdd] at F))  | (go_at_call 39; refine (C_spec_LayerValid _ kind ms _ _ (by exact H.out.at_ S) (by exact HO.out)).mono ?_; rintro e w ⟨rfl, hb⟩; replace S := S.grow hb; clear hb))
    refine ret2 rfl (show _ = _ from rfl) (show _ = _ from rfl) rfl ?_
    exact ⟨rfl, S.below⟩
  | true =>
    rw [hok, if_pos rfl] at hz
    have HO := Lib.hid hok
    cases Ly.ok_case hok with
    | dense wm d hd =>
      obtain ⟨bl, off, rfl, hbl, hc⟩ := hA (by simp)
      obtain ⟨u, a1, a2, _, _⟩ := hc 0 _ rfl
      rw [Nat.zero_mul, Nat.add_zero] at a1 a2
      simp only [List.length_cons, List.length_nil, Nat.zero_add, Nat.reduceAdd] at hcap H ⊢
      have q1 := fun w' L (S' : St w0 w' L) => (S'.below.cell (p := ⟨bl, off, none⟩) hbl).trans a1
      have q2 := fun w' L (S' : St w0 w' L) => (S'.below.cell (p := ⟨bl, off + 1, none⟩) hbl).trans a2
      simp only [Ly.sides] at hz
      clear hok hd hc hA a1 a2
      by_cases hf : wm.c = r
      · rw [if_pos hf] at hz
        injection hz with h1 h2
        subst h1; subst h2; subst hf
        obtain ⟨L, HL, S⟩ := st_start w0; have F : True := trivial
        go_enter Try.func98, Try.ntmps98
        go_upto_region 3 with (first | (refine wpList_box rfl S _ _ rfl ?_; intro g w L hM T; clear F S; (try rw [HL.out] at hM); clear HL; (try simp [Act.put, Act.eval, Value.cells, splice] at hM); have HL := Lib.hid hM; clear hM; have S := T; clear T; have F := factsAll HL S; (try simp only [factsOf, cellsFrom, and_true, true_and, Nat.reduceAdd] at F)) | (go_at_call 39; refine (C_spec_LayerValid _ 1 [wm, d] true _ (by exact H.out.at_ S) (by exact HO.out)).mono ?_; rintro e w ⟨rfl, hb⟩; replace S := S.grow hb; clear hb))
        have f1 := fun w' (S' : St w0 w' L) => q1 w' L S'
        have f2 := fun w' (S' : St w0 w' L) => q2 w' L S'
        go_wp2
        refine ret2 rfl (show _ = _ from rfl) (show _ = _ from rfl) rfl ?_
        exact ⟨rfl, S.below⟩
      · rw [if_neg hf] at hz
        injection hz with h1 h2
        subst h1; subst h2
        have e1 := bne_of hf
        obtain ⟨L, HL, S⟩ := st_start w0; have F : True := trivial
        go_enter Try.func98, Try.ntmps98
        go_upto_region 3 with (first | (refine wpList_box rfl S _ _ rfl ?_; intro g w L hM T; clear F S; (try rw [HL.out] at hM); clear HL; (try simp [Act.put, Act.eval, Value.cells, splice] at hM); have HL := Lib.hid hM; clear hM; have S := T; clear T; have F := factsAll HL S; (try simp only [factsOf, cellsFrom, and_true, true_and, Nat.reduceAdd] at F)) | (go_at_call 39; refine (C_spec_LayerValid _ 1 [wm, d] true _ (by exact H.out.at_ S) (by exact HO.out)).mono ?_; rintro e w ⟨rfl, hb⟩; replace S := S.grow hb; clear hb))
        have f1 := fun w' (S' : St w0 w' L) => q1 w' L S'
        have f2 := fun w' (S' : St w0 w' L) => q2 w' L S'
        go_wp2
        refine ret2 rfl (show _ = _ from rfl) (show _ = _ from rfl) rfl ?_
        exact ⟨rfl, S.below⟩
    | ramp =>
      injection hz with h1 h2
      subst h1; subst h2
      clear hok hA
      obtain ⟨L, HL, S⟩ := st_start w0; have F : True := trivial
      go_enter Try.func98, Try.ntmps98
      go_wp2_with (first | (refine wpList_box rfl S _ _ rfl ?_; intro g w L hM T; clear F S; (try rw [HL.out] at hM); clear HL; (try simp [Act.put, Act.eval, Value.cells, splice] at hM); have HL := Lib.hid hM; clear hM; have S := T; clear T; have F := factsAll HL S; (try simp only [factsOf, cellsFrom, and_true, true_and, Nat.reduceAdd] at F))  | (refine wpList_store_box rfl S _ _ _ rfl 0 _ _ _ _ (atOf HL rfl) rfl _ rfl (by kernel_rfl) rfl rfl ?_; intro w L hM T; clear F S; (try rw [HL.out] at hM); clear HL; (try simp [Act.put, Act.eval, Value.cells, splice] at hM); have HL := Lib.hid hM; clear hM; have S := T; clear T; have F := factsAll HL S; (try simp only [factsOf, cellsFrom, and_true, true_and, Nat.reduceAdd] at F)) | (refine wpList_store_box rfl S _ _ _ rfl 1 _ _ _ _ (atOf HL rfl) rfl _ rfl (by kernel_rfl) rfl rfl ?_; intro w L hM T; clear F S; (try rw [HL.out] at hM); clear HL; (try simp [Act.put, Act.eval, Value.cells, splice] at hM); have HL := Lib.hid hM; clear hM; have S := T; clear T; have F := factsAll HL S; (try simp only [factsOf, cellsFrom, and_true, true_and, Nat.reduceAdd] at F)) | (refine wpList_store_box rfl S _ _ _ rfl 2 _ _ _ _ (atOf HL rfl) rfl _ rfl (by kernel_rfl) rfl rfl ?_; intro w L hM T; clear F S; (try rw [HL.out] at hM); clear HL; (try simp [Act.put, Act.eval, Value.cells, splice] at hM); have HL := Lib.hid hM; clear hM; have S := T; clear T; have F := factsAll HL S; (try simp only [factsOf, cellsFrom, and_true, true_and, Nat.reduceAdd] at F)) | (refine wpList_store_box rfl S _ _ _ rfl 3 _ _ _ _ (atOf HL rfl) rfl _ rfl (by kernel_rfl) rfl rfl ?_; intro w L hM T; clear F S; (try rw [HL.out] at hM); clear HL; (try simp [Act.put, Act.eval, Value.cells, splice] at hM); have HL := Lib.hid hM; clear hM; have S := T; clear T; have F := factsAll HL S; (try simp only [factsOf, cellsFrom, and_true, true_and, Nat.reduceAdd] at F))  | (go_at_call 39; refine (C_spec_LayerValid _ 2 [] true _ (by exact H.out.at_ S) (by exact HO.out)).mono ?_; rintro e w ⟨rfl, hb⟩; replace S := S.grow hb; clear hb))
      refine ret2 rfl (show _ = _ from rfl) (show _ = _ from rfl) rfl ?_
      exact ⟨rfl, S.below⟩
    | mix wm d x3 hd =>
      obtain ⟨bl, off, rfl, hbl, hc⟩ := hA (by simp)
      obtain ⟨u, a1, a2, _, _⟩ := hc 0 _ rfl
      rw [Nat.zero_mul, Nat.add_zero] at a1 a2
      simp only [List.length_cons, List.length_nil, Nat.zero_add, Nat.reduceAdd] at hcap H ⊢
      have q1 := fun w' L (S' : St w0 w' L) => (S'.below.cell (p := ⟨bl, off, none⟩) hbl).trans a1
      have q2 := fun w' L (S' : St w0 w' L) => (S'.below.cell (p := ⟨bl, off + 1, none⟩) hbl).trans a2
      simp only [Ly.sides] at hz
      clear hok hd hc hA a1 a2
      by_cases hf : wm.r = c
      · rw [if_pos hf] at hz
        injection hz with h1 h2
        subst h1; subst h2; subst hf
        obtain ⟨L, HL, S⟩ := st_start w0; have F : True := trivial
        go_enter Try.func98, Try.ntmps98
        go_upto_region 3 with (first | (refine wpList_box rfl S _ _ rfl ?_; intro g w L hM T; clear F S; (try rw [HL.out] at hM); clear HL; (try simp [Act.put, Act.eval, Value.cells, splice] at hM); have HL := Lib.hid hM; clear hM; have S := T; clear T; have F := factsAll HL S; (try simp only [factsOf, cellsFrom, and_true, true_and, Nat.reduceAdd] at F)) | (go_at_call 39; refine (C_spec_LayerValid _ 3 [wm, d, x3] true _ (by exact H.out.at_ S) (by exact HO.out)).mono ?_; rintro e w ⟨rfl, hb⟩; replace S := S.grow hb; clear hb))
        have f1 := fun w' (S' : St w0 w' L) => q1 w' L S'
        have f2 := fun w' (S' : St w0 w' L) => q2 w' L S'
        go_wp2
        refine ret2 rfl (show _ = _ from rfl) (show _ = _ from rfl) rfl ?_
        exact ⟨rfl, S.below⟩
      · rw [if_neg hf] at hz
        injection hz with h1 h2
        subst h1; subst h2
        have e1 := bne_of hf
        obtain ⟨L, HL, S⟩ := st_start w0; have F : True := trivial
        go_enter Try.func98, Try.ntmps98
        go_upto_region 3 with (first | (refine wpList_box rfl S _ _ rfl ?_; intro g w L hM T; clear F S; (try rw [HL.out] at hM); clear HL; (try simp [Act.put, Act.eval, Value.cells, splice] at hM); have HL := Lib.hid hM; clear hM; have S := T; clear T; have F := factsAll HL S; (try simp only [factsOf, cellsFrom, and_true, true_and, Nat.reduceAdd] at F)) | (go_at_call 39; refine (C_spec_LayerValid _ 3 [wm, d, x3] true _ (by exact H.out.at_ S) (by exact HO.out)).mono ?_; rintro e w ⟨rfl, hb⟩; replace S := S.grow hb; clear hb))
        have f1 := fun w' (S' : St w0 w' L) => q1 w' L S'
        have f2 := fun w' (S' : St w0 w' L) => q2 w' L S'
        go_wp2
        refine ret2 rfl (show _ = _ from rfl) (show _ = _ from rfl) rfl ?_
        exact ⟨rfl, S.below⟩
theorem l16_some {l : Ly} {r c a b : Int} (hr : 1 ≤ r ∧ r ≤ 5) (hc : 1 ≤ c ∧ c ≤ 5) (h : l16 l r c = (a, b)) :
    (a = 0 ∧ (l.ok = false ∨ l.sides r c = none)) ∨ (l.ok = true ∧ l.sides r c = some (a, b) ∧ (1 ≤ a ∧ a ≤ 5) ∧ 1 ≤ b ∧ b ≤ 5) := by
  unfold l16 at h
  cases hok : l.ok with
  | false =>
    rw [hok] at h
    injection h with h1 h2
    exact .inl ⟨h1.symm, .inl rfl⟩
  | true =>
    rw [hok, if_pos rfl] at h
    cases hs : l.sides r c with
    | none =>
      rw [hs] at h
      injection h with h1 h2
      exact .inl ⟨h1.symm, .inr rfl⟩
    | some x =>
      rw [hs] at h
      obtain rfl : x = (a, b) := h
      exact .inr ⟨rfl, rfl, Ly.sides_ok hok hr hc hs⟩
theorem C_spec_NetSides (v : Value) (ls : List Ly) (r c : Int) (z : Option (Int × Int)) (w0 : World) (h : SeesLs w0 v ls) (hz : netSides ls r c = z) :
    Calls Try.prog 66 #[v, .int .i64 r, .int .i64 c] w0 fun e w' => e = .returned (sidesRes z) ∧ Below w0.heap.size w0 w' := by
  obtain ⟨A, cap, rfl, hcap, hmax, hA⟩ := h
  obtain ⟨n, hn⟩ : ∃ n, ls.length = n := ⟨_, rfl⟩
  have hz' : (if decide (ls.length ≤ 4) && sideOk r && sideOk c then sidesFrom ls r c else none) = z := hz
  rw [hn] at hcap hA hz' ⊢
  have HN := Lib.hid hn
  have HA := Lib.hid hA
  clear hz hn hA
  unfold maxLen at hmax
  by_cases h4 : n ≤ 4
  · rw [decide_eq_true h4, Bool.true_and] at hz'
    cases h1 : sideOk r with
    | false =>
      obtain rfl : z = none := by rw [← hz', h1]; simp
      clear hz' HA
      obtain ⟨L, HL, S⟩ := st_start w0; have F : True := trivial
      go_enter Try.func66, Try.ntmps66
      go_wp2_with (first | (refine wpList_box rfl S _ _ rfl ?_; intro g w L hM T; clear F S; (try rw [HL.out] at hM); clear HL; (try simp [Act.put, Act.eval, Value.cells, splice] at hM); have HL := Lib.hid hM; clear hM; have S := T; clear T; have F := factsAll HL S; (try simp only [factsOf, cellsFrom, and_true, true_and, Nat.reduceAdd] at F))  | (refine wpList_store_box rfl S _ _ _ rfl 0 _ _ _ _ (atOf HL rfl) rfl _ rfl (by kernel_rfl) rfl rfl ?_; intro w L hM T; clear F S; (try rw [HL.out] at hM); clear HL; (try simp [Act.put, Act.eval, Value.cells, splice] at hM); have HL := Lib.hid hM; clear hM; have S := T; clear T; have F := factsAll HL S; (try simp only [factsOf, cellsFrom, and_true, true_and, Nat.reduceAdd] at F)) | (refine wpList_store_box rfl S _ _ _ rfl 1 _ _ _ _ (atOf HL rfl) rfl _ rfl (by kernel_rfl) rfl rfl ?_; intro w L hM T; clear F S; (try rw [HL.out] at hM); clear HL; (try simp [Act.put, Act.eval, Value.cells, splice] at hM); have HL := Lib.hid hM; clear hM; have S := T; clear T; have F := factsAll HL S; (try simp only [factsOf, cellsFrom, and_true, true_and, Nat.reduceAdd] at F)) | (refine wpList_store_box rfl S _ _ _ rfl 2 _ _ _ _ (atOf HL rfl) rfl _ rfl (by kernel_rfl) rfl rfl ?_; intro w L hM T; clear F S; (try rw [HL.out] at hM); clear HL; (try simp [Act.put, Act.eval, Value.cells, splice] at hM); have HL := Lib.hid hM; clear hM; have S := T; clear T; have F := factsAll HL S; (try simp only [factsOf, cellsFrom, and_true, true_and, Nat.reduceAdd] at F)) | (refine wpList_store_box rfl S _ _ _ rfl 3 _ _ _ _ (atOf HL rfl) rfl _ rfl (by kernel_rfl) rfl rfl ?_; intro w L hM T; clear F S; (try rw [HL.out] at hM); clear HL; (try simp [Act.put, Act.eval, Value.cells, splice] at hM); have HL := Lib.hid hM; clear hM; have S := T; clear T; have F := factsAll HL S; (try simp only [factsOf, cellsFrom, and_true, true_and, Nat.reduceAdd] at F))  | (go_at_call 48; refine (C_in5 _ _ _ (by exact h1)).mono ?_; rintro e w' ⟨rfl, rfl⟩))
      refine ret3 rfl (show _ = _ from rfl) (show _ = _ from rfl) (show _ = _ from rfl) rfl ?_
      exact ⟨rfl, S.below⟩
    | true =>
      cases h2 : sideOk c with
      | false =>
        obtain rfl : z = none := by rw [← hz', h2]; simp
        clear hz' HA
        obtain ⟨L, HL, S⟩ := st_start w0; have F : True := trivial
        go_enter Try.func66, Try.ntmps66
        go_wp2_with (first | (refine wpList_box rfl S _ _ rfl ?_; intro g w L hM T; clear F S; (try rw [HL.out] at hM); clear HL; (try simp [Act.put, Act.eval, Value.cells, splice] at hM); have HL := Lib.hid hM; clear hM; have S := T; clear T; have F := factsAll HL S; (try simp only [factsOf, cellsFrom, and_true, true_and, Nat.reduceAdd] at F))  | (refine wpList_store_box rfl S _ _ _ rfl 0 _ _ _ _ (atOf HL rfl) rfl _ rfl (by kernel_rfl) rfl rfl ?_; intro w L hM T; clear F S; (try rw [HL.out] at hM); clear HL; (try simp [Act.put, Act.eval, Value.cells, splice] at hM); have HL := Lib.hid hM; clear hM; have S := T; clear T; have F := factsAll HL S; (try simp only [factsOf, cellsFrom, and_true, true_and, Nat.reduceAdd] at F)) | (refine wpList_store_box rfl S _ _ _ rfl 1 _ _ _ _ (atOf HL rfl) rfl _ rfl (by kernel_rfl) rfl rfl ?_; intro w L hM T; clear F S; (try rw [HL.out] at hM); clear HL; (try simp [Act.put, Act.eval, Value.cells, splice] at hM); have HL := Lib.hid hM; clear hM; have S := T; clear T; have F := factsAll HL S; (try simp only [factsOf, cellsFrom, and_true, true_and, Nat.reduceAdd] at F)) | (refine wpList_store_box rfl S _ _ _ rfl 2 _ _ _ _ (atOf HL rfl) rfl _ rfl (by kernel_rfl) rfl rfl ?_; intro w L hM T; clear F S; (try rw [HL.out] at hM); clear HL; (try simp [Act.put, Act.eval, Value.cells, splice] at hM); have HL := Lib.hid hM; clear hM; have S := T; clear T; have F := factsAll HL S; (try simp only [factsOf, cellsFrom, and_true, true_and, Nat.reduceAdd] at F)) | (refine wpList_store_box rfl S _ _ _ rfl 3 _ _ _ _ (atOf HL rfl) rfl _ rfl (by kernel_rfl) rfl rfl ?_; intro w L hM T; clear F S; (try rw [HL.out] at hM); clear HL; (try simp [Act.put, Act.eval, Value.cells, splice] at hM); have HL := Lib.hid hM; clear hM; have S := T; clear T; have F := factsAll HL S; (try simp only [factsOf, cellsFrom, and_true, true_and, Nat.reduceAdd] at F))  | (go_at_call 48; refine (C_in5 _ _ _ (by first | exact h1 | exact h2)).mono ?_; rintro e w' ⟨rfl, rfl⟩))
        refine ret3 rfl (show _ = _ from rfl) (show _ = _ from rfl) (show _ = _ from rfl) rfl ?_
        exact ⟨rfl, S.below⟩
      | true =>
        rw [h1, h2, Bool.and_true, if_pos rfl] at hz'
        have q1 := sideOk_iff.1 h1
        have q2 := sideOk_iff.1 h2
        have H1 := Lib.hid h1
        have H2 := Lib.hid h2
        have HZ := Lib.hid hz'
        clear h1 h2 hz'
        obtain ⟨L, HL, S⟩ := st_start w0; have F : True := trivial
        go_enter Try.func66, Try.ntmps66
        go_wp2_with (first | (go_at_call 48; refine (C_in5 _ _ _ (by first | exact H1.out | exact H2.out)).mono ?_; rintro e w' ⟨rfl, rfl⟩))
        go_loopw [1, 2, 9] (fun r' c' i wr => ∃ (j : Nat) (r1 c1 : Int), j ≤ n ∧ i = .int .i64 j ∧ r' = .int .i64 r1 ∧ c' = .int .i64 c1 ∧ Hid ((1 ≤ r1 ∧ r1 ≤ 5) ∧ (1 ≤ c1 ∧ c1 ≤ 5) ∧ sidesFrom (ls.drop j) r1 c1 = z) ∧ St w0 wr L) (fun _ _ i _ => n - (intOf i).toNat)
        case atStart => exact ⟨0, r, c, Nat.zero_le _, rfl, rfl, rfl, Lib.hid ⟨q1, q2, HZ.out⟩, S⟩
        case round =>
          clear S HZ H1 H2
          obtain ⟨j, r1, c1, hj, rfl, rfl, rfl, HR, S⟩ := hrel
          by_cases hlt : j < n
          · obtain ⟨b2, off2, rfl, hb2, hc2⟩ := HA.out (by omega)
            obtain ⟨l, hl⟩ := some_at HN.out hlt
            obtain ⟨kind, ms⟩ := l
            obtain ⟨u, a1, a2, hu⟩ := hc2 j _ hl
            dsimp only at a1 a2 hu
            have HU := Lib.hid hu
            obtain ⟨Au, cu, rfl, hcu, hmu, _⟩ := hu
            have f1 := fun w' (S' : St w0 w' L) => (S'.below.cell (p := ⟨b2, off2 + j * 2, none⟩) hb2).trans a1
            have f2 := fun w' (S' : St w0 w' L) => (S'.below.cell (p := ⟨b2, off2 + j * 2 + 1, none⟩) hb2).trans a2
            obtain ⟨⟨r2, r3⟩, ⟨c2, c3⟩, hz⟩ := HR.out
            rw [drop_at hl] at hz
            unfold sidesFrom at hz
            obtain ⟨⟨a, b⟩, hab⟩ : ∃ x, l16 ⟨kind, ms⟩ r1 c1 = x := ⟨_, rfl⟩
            have HAB := Lib.hid hab
            have hx := l16_some ⟨r2, r3⟩ ⟨c2, c3⟩ hab
            clear hc2 a1 a2 hl hab HR
            rcases hx with ⟨rfl, hx⟩ | ⟨hok, hs, ha, hb⟩
            · obtain rfl : z = none := by
                rcases hx with hx | hx
                · rw [hx] at hz; exact hz.symm
                · rw [hx] at hz; rw [← hz]; split <;> rfl
              clear hz hx
              go_wp2_with (first | (go_at_call 98; refine (C_l16Sides _ kind ms _ _ 0 b _ (by exact HU.out.at_ S) HAB.out).mono ?_; rintro e w ⟨rfl, hb⟩; replace S := S.grow hb; clear hb))
              refine ret3 rfl (show _ = _ from rfl) (show _ = _ from rfl) (show _ = _ from rfl) rfl ?_
              exact ⟨rfl, S.below⟩
            · rw [if_pos hok, hs] at hz
              have HZ := Lib.hid hz
              have hne := bne_of (a := a) (b := 0) (by omega)
              obtain ⟨ha1, ha2⟩ := ha
              obtain ⟨hb1, hb3⟩ := hb
              clear hz hok hs
              go_wp2_with (first | (go_at_call 98; refine (C_l16Sides _ kind ms _ _ a b _ (by exact HU.out.at_ S) HAB.out).mono ?_; rintro e w ⟨rfl, hb⟩; replace S := S.grow hb; clear hb))
              go_roundw
              case rel => exact ⟨j + 1, a, b, by omega, by go_num, rfl, rfl, Lib.hid ⟨⟨ha1, ha2⟩, ⟨hb1, hb3⟩, HZ.out⟩, S⟩
              case measure => simp [intOf]; omega
          · obtain rfl : j = n := by omega
            obtain ⟨_, _, hz⟩ := HR.out
            rw [List.drop_of_length_le (Nat.le_of_eq HN.out)] at hz
            unfold sidesFrom at hz
            subst hz
            go_wp2
            refine ret3 rfl (show _ = _ from rfl) (show _ = _ from rfl) (show _ = _ from rfl) rfl ?_
            exact ⟨rfl, S.below⟩
  · obtain rfl : z = none := by rw [← hz', decide_eq_false h4]; simp
    clear hz' HA
    obtain ⟨L, HL, S⟩ := st_start w0; have F : True := trivial
    go_enter Try.func66, Try.ntmps66
    go_wp2_with (first | (refine wpList_box rfl S _ _ rfl ?_; intro g w L hM T; clear F S; (try rw [HL.out] at hM); clear HL; (try simp [Act.put, Act.eval, Value.cells, splice] at hM); have HL := Lib.hid hM; clear hM; have S := T; clear T; have F := factsAll HL S; (try simp only [factsOf, cellsFrom, and_true, true_and, Nat.reduceAdd] at F))  | (refine wpList_store_box rfl S _ _ _ rfl 0 _ _ _ _ (atOf HL rfl) rfl _ rfl (by kernel_rfl) rfl rfl ?_; intro w L hM T; clear F S; (try rw [HL.out] at hM); clear HL; (try simp [Act.put, Act.eval, Value.cells, splice] at hM); have HL := Lib.hid hM; clear hM; have S := T; clear T; have F := factsAll HL S; (try simp only [factsOf, cellsFrom, and_true, true_and, Nat.reduceAdd] at F)) | (refine wpList_store_box rfl S _ _ _ rfl 1 _ _ _ _ (atOf HL rfl) rfl _ rfl (by kernel_rfl) rfl rfl ?_; intro w L hM T; clear F S; (try rw [HL.out] at hM); clear HL; (try simp [Act.put, Act.eval, Value.cells, splice] at hM); have HL := Lib.hid hM; clear hM; have S := T; clear T; have F := factsAll HL S; (try simp only [factsOf, cellsFrom, and_true, true_and, Nat.reduceAdd] at F)) | (refine wpList_store_box rfl S _ _ _ rfl 2 _ _ _ _ (atOf HL rfl) rfl _ rfl (by kernel_rfl) rfl rfl ?_; intro w L hM T; clear F S; (try rw [HL.out] at hM); clear HL; (try simp [Act.put, Act.eval, Value.cells, splice] at hM); have HL := Lib.hid hM; clear hM; have S := T; clear T; have F := factsAll HL S; (try simp only [factsOf, cellsFrom, and_true, true_and, Nat.reduceAdd] at F)) | (refine wpList_store_box rfl S _ _ _ rfl 3 _ _ _ _ (atOf HL rfl) rfl _ rfl (by kernel_rfl) rfl rfl ?_; intro w L hM T; clear F S; (try rw [HL.out] at hM); clear HL; (try simp [Act.put, Act.eval, Value.cells, splice] at hM); have HL := Lib.hid hM; clear hM; have S := T; clear T; have F := factsAll HL S; (try simp only [factsOf, cellsFrom, and_true, true_and, Nat.reduceAdd] at F))  )
    refine ret3 rfl (show _ = _ from rfl) (show _ = _ from rfl) (show _ = _ from rfl) rfl ?_
    exact ⟨rfl, S.below⟩
end Go.Proofs.Ytdfpceobfficfaa
