/-
  Contracts: sums of batches of checked numbers.
-/
import Derived.Test.YtncbmmdldmdndaaPlainB
namespace Go.Proofs.Ytncbmmdldmdndaa
set_option linter.unusedSimpArgs false
set_option linter.unusedVariables false
set_option linter.unusedSectionVars false
open Go Go.RowKit
set_option maxHeartbeats 8000000
set_option maxRecDepth 20000
theorem batch_big {n : Nat} {zs ts : List Int} (h : n > 20) : batchSum n zs ts = Ck.none_ := batchSum_not fun hb => by have := (batchOk_iff.1 hb).1; omega
theorem batch_len {n : Nat} {zs ts : List Int} (h : ts.length ≠ n) : batchSum n zs ts = Ck.none_ := batchSum_not fun hb => h (batchOk_iff.1 hb).2.1
theorem batch_ring {n : Nat} {zs ts : List Int} (h : ts.all rv = false) : batchSum n zs ts = Ck.none_ := batchSum_not fun hb => by simp [batchOk, h] at hb
theorem batch_ck {n k : Nat} {zs ts : List Int} (hk : k < n) (h : (ckAt zs k).ok = false) : batchSum n zs ts = Ck.none_ := batchSum_not fun hb => by
  have := (batchOk_iff.1 hb).2.2.2 k hk
  rw [h] at this; cases this
theorem batch_time {n k : Nat} {zs ts : List Int} (hk : k < n) (h : rv (ts.getD k 0) = false) : batchSum n zs ts = Ck.none_ := batchSum_not fun hb => by
  have := (batchOk_iff.1 hb).2.2.1 k hk
  rw [h] at this; cases this
theorem all_getD {ts : List Int} (h : ts.all rv = true) : ∀ k, k < ts.length → rv (ts.getD k 0) = true := by
  intro k hk
  rw [List.getD_eq_getElem?_getD, List.getElem?_eq_getElem hk]
  exact List.all_eq_true.1 h _ (List.getElem_mem hk)
theorem C_impl_BatchSum (v u : Value) (n : Nat) (zs ts : List Int) (w0 : World) (hx : zs.length = n * 4) (h : Sees w0 4 v n (ints zs)) (ht : Ints w0 u ts) :
    Calls Try.prog 81 #[v, u] w0 fun e w' => e = .returned (.agg #[.int .i64 (batchSum n zs ts).v.a, .int .i64 (batchSum n zs ts).v.b, .int .i64 (batchSum n zs ts).m.a, .int .i64 (batchSum n zs ts).m.b]) ∧ Below w0.heap.size w0 w' := by
  have HT := Lib.hid ht
  obtain ⟨hl, A, cap, rfl, hcap, hmax, hA⟩ := h
  obtain ⟨_, B, cap', rfl, hcap', hmax', hB⟩ := ht
  obtain ⟨m, hm⟩ : ∃ m, ts.length = m := ⟨_, rfl⟩
  have HB := Lib.hid hB
  clear hB
  rw [hm] at hcap' HB HT ⊢
  have HM := Lib.hid hm
  have HX := Lib.hid hx
  have HA := Lib.hid hA
  clear hl hA hx hm
  unfold maxLen at hmax hmax'
  by_cases hbig : n > 20
  · rw [batch_big hbig]
    obtain ⟨L, HL, S⟩ := st_start w0; have F : True := trivial
    go_enter Try.func81, Try.ntmps81
    go_wp2_with (first | (refine wpList_box rfl S _ _ rfl ?_; intro g w L hM T; clear F S; (try rw [HL.out] at hM); clear HL; (try simp [Act.put, Act.eval, Value.cells, splice] at hM); have HL := Lib.hid hM; clear hM; have S := T; clear T; have F := factsAll HL S; (try simp only [factsOf, cellsFrom, and_true, true_and, Nat.reduceAdd] at F)) | (refine wpList_alloc rfl S 107 _ rfl zCk ?_; intro g w L hM T; clear F S; (try rw [HL.out] at hM); clear HL; (try simp [Act.put, Act.eval, Value.cells, splice] at hM); have HL := Lib.hid hM; clear hM; have S := T; clear T; have F := factsAll HL S; (try simp only [factsOf, cellsFrom, and_true, true_and, Nat.reduceAdd] at F)) | (refine wpList_store_box rfl S _ _ _ rfl 0 _ _ _ _ (atOf HL rfl) rfl _ rfl (by kernel_rfl) rfl rfl ?_; intro w L hM T; clear F S; (try rw [HL.out] at hM); clear HL; (try simp [Act.put, Act.eval, Value.cells, splice] at hM); have HL := Lib.hid hM; clear hM; have S := T; clear T; have F := factsAll HL S; (try simp only [factsOf, cellsFrom, and_true, true_and, Nat.reduceAdd] at F)) | (refine wpList_store_box rfl S _ _ _ rfl 1 _ _ _ _ (atOf HL rfl) rfl _ rfl (by kernel_rfl) rfl rfl ?_; intro w L hM T; clear F S; (try rw [HL.out] at hM); clear HL; (try simp [Act.put, Act.eval, Value.cells, splice] at hM); have HL := Lib.hid hM; clear hM; have S := T; clear T; have F := factsAll HL S; (try simp only [factsOf, cellsFrom, and_true, true_and, Nat.reduceAdd] at F)) | (refine wpList_store_box rfl S _ _ _ rfl 2 _ _ _ _ (atOf HL rfl) rfl _ rfl (by kernel_rfl) rfl rfl ?_; intro w L hM T; clear F S; (try rw [HL.out] at hM); clear HL; (try simp [Act.put, Act.eval, Value.cells, splice] at hM); have HL := Lib.hid hM; clear hM; have S := T; clear T; have F := factsAll HL S; (try simp only [factsOf, cellsFrom, and_true, true_and, Nat.reduceAdd] at F)) | (refine wpList_store_box rfl S _ _ _ rfl 3 _ _ _ _ (atOf HL rfl) rfl _ rfl (by kernel_rfl) rfl rfl ?_; intro w L hM T; clear F S; (try rw [HL.out] at hM); clear HL; (try simp [Act.put, Act.eval, Value.cells, splice] at hM); have HL := Lib.hid hM; clear hM; have S := T; clear T; have F := factsAll HL S; (try simp only [factsOf, cellsFrom, and_true, true_and, Nat.reduceAdd] at F)) | (go_at_call 151; refine (C_impl_noChecked _).mono ?_; rintro e w ⟨rfl, hb⟩; replace S := S.grow hb; clear hb) )
    ((try simp only [Exit.inBlock, Exit.then]); refine ret1 rfl (resCell S HL 0 rfl rfl (by kernel_rfl)) rfl ?_); exact ⟨rfl, S.below⟩
  by_cases hmn : m = n
  rotate_left
  · rw [batch_len (by rw [HM.out]; exact hmn)]
    have hmn' : ((m : Int) != n) = true := by simp; omega
    obtain ⟨L, HL, S⟩ := st_start w0; have F : True := trivial
    go_enter Try.func81, Try.ntmps81
    go_wp2_with (first | (refine wpList_box rfl S _ _ rfl ?_; intro g w L hM T; clear F S; (try rw [HL.out] at hM); clear HL; (try simp [Act.put, Act.eval, Value.cells, splice] at hM); have HL := Lib.hid hM; clear hM; have S := T; clear T; have F := factsAll HL S; (try simp only [factsOf, cellsFrom, and_true, true_and, Nat.reduceAdd] at F)) | (refine wpList_alloc rfl S 107 _ rfl zCk ?_; intro g w L hM T; clear F S; (try rw [HL.out] at hM); clear HL; (try simp [Act.put, Act.eval, Value.cells, splice] at hM); have HL := Lib.hid hM; clear hM; have S := T; clear T; have F := factsAll HL S; (try simp only [factsOf, cellsFrom, and_true, true_and, Nat.reduceAdd] at F)) | (refine wpList_store_box rfl S _ _ _ rfl 0 _ _ _ _ (atOf HL rfl) rfl _ rfl (by kernel_rfl) rfl rfl ?_; intro w L hM T; clear F S; (try rw [HL.out] at hM); clear HL; (try simp [Act.put, Act.eval, Value.cells, splice] at hM); have HL := Lib.hid hM; clear hM; have S := T; clear T; have F := factsAll HL S; (try simp only [factsOf, cellsFrom, and_true, true_and, Nat.reduceAdd] at F)) | (refine wpList_store_box rfl S _ _ _ rfl 1 _ _ _ _ (atOf HL rfl) rfl _ rfl (by kernel_rfl) rfl rfl ?_; intro w L hM T; clear F S; (try rw [HL.out] at hM); clear HL; (try simp [Act.put, Act.eval, Value.cells, splice] at hM); have HL := Lib.hid hM; clear hM; have S := T; clear T; have F := factsAll HL S; (try simp only [factsOf, cellsFrom, and_true, true_and, Nat.reduceAdd] at F)) | (refine wpList_store_box rfl S _ _ _ rfl 2 _ _ _ _ (atOf HL rfl) rfl _ rfl (by kernel_rfl) rfl rfl ?_; intro w L hM T; clear F S; (try rw [HL.out] at hM); clear HL; (try simp [Act.put, Act.eval, Value.cells, splice] at hM); have HL := Lib.hid hM; clear hM; have S := T; clear T; have F := factsAll HL S; (try simp only [factsOf, cellsFrom, and_true, true_and, Nat.reduceAdd] at F)) | (refine wpList_store_box rfl S _ _ _ rfl 3 _ _ _ _ (atOf HL rfl) rfl _ rfl (by kernel_rfl) rfl rfl ?_; intro w L hM T; clear F S; (try rw [HL.out] at hM); clear HL; (try simp [Act.put, Act.eval, Value.cells, splice] at hM); have HL := Lib.hid hM; clear hM; have S := T; clear T; have F := factsAll HL S; (try simp only [factsOf, cellsFrom, and_true, true_and, Nat.reduceAdd] at F)) | (go_at_call 151; refine (C_impl_noChecked _).mono ?_; rintro e w ⟨rfl, hb⟩; replace S := S.grow hb; clear hb) )
    ((try simp only [Exit.inBlock, Exit.then]); refine ret1 rfl (resCell S HL 0 rfl rfl (by kernel_rfl)) rfl ?_); exact ⟨rfl, S.below⟩
  subst hmn
  cases hr : ts.all rv with
  | false =>
    rw [batch_ring hr]
    obtain ⟨L, HL, S⟩ := st_start w0; have F : True := trivial
    go_enter Try.func81, Try.ntmps81
    go_wp2_with (first | (refine wpList_box rfl S _ _ rfl ?_; intro g w L hM T; clear F S; (try rw [HL.out] at hM); clear HL; (try simp [Act.put, Act.eval, Value.cells, splice] at hM); have HL := Lib.hid hM; clear hM; have S := T; clear T; have F := factsAll HL S; (try simp only [factsOf, cellsFrom, and_true, true_and, Nat.reduceAdd] at F)) | (refine wpList_alloc rfl S 107 _ rfl zCk ?_; intro g w L hM T; clear F S; (try rw [HL.out] at hM); clear HL; (try simp [Act.put, Act.eval, Value.cells, splice] at hM); have HL := Lib.hid hM; clear hM; have S := T; clear T; have F := factsAll HL S; (try simp only [factsOf, cellsFrom, and_true, true_and, Nat.reduceAdd] at F)) | (refine wpList_store_box rfl S _ _ _ rfl 0 _ _ _ _ (atOf HL rfl) rfl _ rfl (by kernel_rfl) rfl rfl ?_; intro w L hM T; clear F S; (try rw [HL.out] at hM); clear HL; (try simp [Act.put, Act.eval, Value.cells, splice] at hM); have HL := Lib.hid hM; clear hM; have S := T; clear T; have F := factsAll HL S; (try simp only [factsOf, cellsFrom, and_true, true_and, Nat.reduceAdd] at F)) | (refine wpList_store_box rfl S _ _ _ rfl 1 _ _ _ _ (atOf HL rfl) rfl _ rfl (by kernel_rfl) rfl rfl ?_; intro w L hM T; clear F S; (try rw [HL.out] at hM); clear HL; (try simp [Act.put, Act.eval, Value.cells, splice] at hM); have HL := Lib.hid hM; clear hM; have S := T; clear T; have F := factsAll HL S; (try simp only [factsOf, cellsFrom, and_true, true_and, Nat.reduceAdd] at F)) | (refine wpList_store_box rfl S _ _ _ rfl 2 _ _ _ _ (atOf HL rfl) rfl _ rfl (by kernel_rfl) rfl rfl ?_; intro w L hM T; clear F S; (try rw [HL.out] at hM); clear HL; (try simp [Act.put, Act.eval, Value.cells, splice] at hM); have HL := Lib.hid hM; clear hM; have S := T; clear T; have F := factsAll HL S; (try simp only [factsOf, cellsFrom, and_true, true_and, Nat.reduceAdd] at F)) | (refine wpList_store_box rfl S _ _ _ rfl 3 _ _ _ _ (atOf HL rfl) rfl _ rfl (by kernel_rfl) rfl rfl ?_; intro w L hM T; clear F S; (try rw [HL.out] at hM); clear HL; (try simp [Act.put, Act.eval, Value.cells, splice] at hM); have HL := Lib.hid hM; clear hM; have S := T; clear T; have F := factsAll HL S; (try simp only [factsOf, cellsFrom, and_true, true_and, Nat.reduceAdd] at F)) | (go_at_call 151; refine (C_impl_noChecked _).mono ?_; rintro e w ⟨rfl, hb⟩; replace S := S.grow hb; clear hb) | (go_at_call 150; refine (C_impl_allRing _ ts _ (HT.out.at_ S)).mono ?_; rintro e w' ⟨rfl, rfl⟩))
    ((try simp only [Exit.inBlock, Exit.then]); refine ret1 rfl (resCell S HL 0 rfl rfl (by kernel_rfl)) rfl ?_); exact ⟨rfl, S.below⟩
  | true =>
    have HR := Lib.hid (all_getD hr)
    obtain ⟨L, HL, S⟩ := st_start w0; have F : True := trivial
    go_enter Try.func81, Try.ntmps81
    go_upto_region 1 with (first | (refine wpList_alloc rfl S 107 _ rfl zCk ?_; intro gr w L hM T; clear F S; (try rw [HL.out] at hM); clear HL; (try simp [Act.put, Act.eval, Value.cells, splice] at hM); have HL := Lib.hid hM; clear hM; have S := T; clear T; have F := factsAll HL S; (try simp only [factsOf, cellsFrom, and_true, true_and, Nat.reduceAdd] at F)))
    go_wp2_with (first | (refine wpList_box rfl S _ _ rfl ?_; intro g w L hM T; clear F S; (try rw [HL.out] at hM); clear HL; (try simp [Act.put, Act.eval, Value.cells, splice] at hM); have HL := Lib.hid hM; clear hM; have S := T; clear T; have F := factsAll HL S; (try simp only [factsOf, cellsFrom, and_true, true_and, Nat.reduceAdd] at F)) | (refine wpList_alloc rfl S 107 _ rfl zCk ?_; intro g w L hM T; clear F S; (try rw [HL.out] at hM); clear HL; (try simp [Act.put, Act.eval, Value.cells, splice] at hM); have HL := Lib.hid hM; clear hM; have S := T; clear T; have F := factsAll HL S; (try simp only [factsOf, cellsFrom, and_true, true_and, Nat.reduceAdd] at F)) | (refine wpList_store_box rfl S _ _ _ rfl 0 _ _ _ _ (atOf HL rfl) rfl _ rfl (by kernel_rfl) rfl rfl ?_; intro w L hM T; clear F S; (try rw [HL.out] at hM); clear HL; (try simp [Act.put, Act.eval, Value.cells, splice] at hM); have HL := Lib.hid hM; clear hM; have S := T; clear T; have F := factsAll HL S; (try simp only [factsOf, cellsFrom, and_true, true_and, Nat.reduceAdd] at F)) | (refine wpList_store_box rfl S _ _ _ rfl 1 _ _ _ _ (atOf HL rfl) rfl _ rfl (by kernel_rfl) rfl rfl ?_; intro w L hM T; clear F S; (try rw [HL.out] at hM); clear HL; (try simp [Act.put, Act.eval, Value.cells, splice] at hM); have HL := Lib.hid hM; clear hM; have S := T; clear T; have F := factsAll HL S; (try simp only [factsOf, cellsFrom, and_true, true_and, Nat.reduceAdd] at F)) | (refine wpList_store_box rfl S _ _ _ rfl 2 _ _ _ _ (atOf HL rfl) rfl _ rfl (by kernel_rfl) rfl rfl ?_; intro w L hM T; clear F S; (try rw [HL.out] at hM); clear HL; (try simp [Act.put, Act.eval, Value.cells, splice] at hM); have HL := Lib.hid hM; clear hM; have S := T; clear T; have F := factsAll HL S; (try simp only [factsOf, cellsFrom, and_true, true_and, Nat.reduceAdd] at F)) | (refine wpList_store_box rfl S _ _ _ rfl 3 _ _ _ _ (atOf HL rfl) rfl _ rfl (by kernel_rfl) rfl rfl ?_; intro w L hM T; clear F S; (try rw [HL.out] at hM); clear HL; (try simp [Act.put, Act.eval, Value.cells, splice] at hM); have HL := Lib.hid hM; clear hM; have S := T; clear T; have F := factsAll HL S; (try simp only [factsOf, cellsFrom, and_true, true_and, Nat.reduceAdd] at F)) | (go_at_call 151; refine (C_impl_noChecked _).mono ?_; rintro e w ⟨rfl, hb⟩; replace S := S.grow hb; clear hb) | (go_at_call 150; refine (C_impl_allRing _ ts _ (HT.out.at_ S)).mono ?_; rintro e w' ⟨rfl, rfl⟩))
    clear hr
    go_loopw [26] (fun i wr => ∃ (k : Nat) (s0 s1 s2 s3 : Int) (L : List Ent), k ≤ m ∧ i = .int .i64 k ∧ Hid (sumTo zs ts k = ⟨⟨s0, s1⟩, ⟨s2, s3⟩⟩) ∧ Hid (∀ j, j < k → (ckAt zs j).ok = true) ∧ Hid (L = [.box g 107 [.int .i64 s0, .int .i64 s1, .int .i64 s2, .int .i64 s3], .box gr 107 [.int .i64 0, .int .i64 0, .int .i64 0, .int .i64 0]]) ∧ St w0 wr L) (fun i _ => m - (intOf i).toNat)
    case atStart => exact ⟨0, 0, 0, 0, 0, L, Nat.zero_le _, rfl, Lib.hid rfl, Lib.hid (fun j hj => absurd hj (by omega)), HL, S⟩
    case round =>
      clear F HL S
      obtain ⟨k, s0, s1, s2, s3, L, hk, rfl, HS, HO, HL, S⟩ := hrel
      have F := factsAll HL S
      simp only [factsOf, cellsFrom, and_true, true_and, Nat.reduceAdd] at F
      by_cases hlt : k < m
      · obtain ⟨b, off, rfl, hb, hc⟩ := HA.out (by omega)
        obtain ⟨b', off', rfl, hb', hc'⟩ := HB.out (by omega)
        have hcc : ∀ j i u, (ints zs)[j + i]? = some u → w0.cell? ⟨b, off + j + i, none⟩ = some u := fun j i u h => by rw [Nat.add_assoc]; exact hc _ _ h
        have q : k * 4 + 4 ≤ zs.length := by rw [HX.out]; omega
        have c0 := (S.below.cell (p := ⟨b, off + k * 4, none⟩) hb).trans (hc (k * 4) _ (ints_getD zs (k * 4) (by omega)))
        have c1 := (S.below.cell (p := ⟨b, off + k * 4 + 1, none⟩) hb).trans (hcc (k * 4) 1 _ (ints_getD zs (k * 4 + 1) (by omega)))
        have c2 := (S.below.cell (p := ⟨b, off + k * 4 + 2, none⟩) hb).trans (hcc (k * 4) 2 _ (ints_getD zs (k * 4 + 2) (by omega)))
        have c3 := (S.below.cell (p := ⟨b, off + k * 4 + 3, none⟩) hb).trans (hcc (k * 4) 3 _ (ints_getD zs (k * 4 + 3) (by omega)))
        have ht := hc' k _ (ints_getD ts k (by rw [HM.out]; exact hlt))
        have hck : ckAt zs k = ⟨⟨zs.getD (k * 4) 0, zs.getD (k * 4 + 1) 0⟩, ⟨zs.getD (k * 4 + 2) 0, zs.getD (k * 4 + 3) 0⟩⟩ := rfl
        have hsum : sumTo zs ts (k + 1) = addC ⟨⟨s0, s1⟩, ⟨s2, s3⟩⟩ (timesC (ckAt zs k) (ts.getD k 0)) := by rw [← HS.out]; rfl
        have hrt := HR.out k (by rw [HM.out]; exact hlt)
        generalize zs.getD (k * 4) 0 = x0 at c0 hck
        generalize zs.getD (k * 4 + 1) 0 = x1 at c1 hck
        generalize zs.getD (k * 4 + 2) 0 = x2 at c2 hck
        generalize zs.getD (k * 4 + 3) 0 = x3 at c3 hck
        generalize ts.getD k 0 = t at ht hsum hrt
        have HTT := Lib.hid ht
        clear hc hcc q hc' ht
        cases ho : (ckAt zs k).ok with
        | false =>
          have EE := Lib.hid (batch_ck (ts := ts) hlt ho)
          rw [hck] at ho
          clear hck hsum hrt
          go_wp2_with (first | (refine wpList_alloc rfl S 107 _ rfl zCk ?_; intro g w L hM T; clear F S; (try rw [HL.out] at hM); clear HL; (try simp [Act.put, Act.eval, Value.cells, splice] at hM); have HL := Lib.hid hM; clear hM; have S := T; clear T; have F := factsAll HL S; (try simp only [factsOf, cellsFrom, and_true, true_and, Nat.reduceAdd] at F)) | (refine wpList_store_box rfl S _ _ _ rfl 0 _ _ _ _ (atOf HL rfl) rfl _ rfl (by kernel_rfl) rfl rfl ?_; intro w L hM T; clear F S; (try rw [HL.out] at hM); clear HL; (try simp [Act.put, Act.eval, Value.cells, splice] at hM); have HL := Lib.hid hM; clear hM; have S := T; clear T; have F := factsAll HL S; (try simp only [factsOf, cellsFrom, and_true, true_and, Nat.reduceAdd] at F)) | (refine wpList_store_box rfl S _ _ _ rfl 1 _ _ _ _ (atOf HL rfl) rfl _ rfl (by kernel_rfl) rfl rfl ?_; intro w L hM T; clear F S; (try rw [HL.out] at hM); clear HL; (try simp [Act.put, Act.eval, Value.cells, splice] at hM); have HL := Lib.hid hM; clear hM; have S := T; clear T; have F := factsAll HL S; (try simp only [factsOf, cellsFrom, and_true, true_and, Nat.reduceAdd] at F)) | (refine wpList_store_box rfl S _ _ _ rfl 2 _ _ _ _ (atOf HL rfl) rfl _ rfl (by kernel_rfl) rfl rfl ?_; intro w L hM T; clear F S; (try rw [HL.out] at hM); clear HL; (try simp [Act.put, Act.eval, Value.cells, splice] at hM); have HL := Lib.hid hM; clear hM; have S := T; clear T; have F := factsAll HL S; (try simp only [factsOf, cellsFrom, and_true, true_and, Nat.reduceAdd] at F)) | (go_at_call 148; refine (C_impl_ckValid _ _ _ _ _).mono ?_; rintro e w ⟨rfl, hb⟩; replace S := S.grow hb; clear hb) | (go_at_call 151; refine (C_impl_noChecked _).mono ?_; rintro e w ⟨rfl, hb⟩; replace S := S.grow hb; clear hb))
          ((try simp only [Exit.inBlock, Exit.then]); refine ret1 rfl (resCell S HL 2 rfl rfl (by kernel_rfl)) rfl ?_)
          exact ⟨by rw [EE.out] <;> rfl, S.below⟩
        | true =>
          have HOK := Lib.hid ho
          rw [hck] at ho hsum
          have CT := fun w => C_impl_TimesChecked x0 x1 x2 x3 t w
          generalize timesC ⟨⟨x0, x1⟩, ⟨x2, x3⟩⟩ t = T0 at CT hsum
          obtain ⟨⟨t0, t1⟩, ⟨t2, t3⟩⟩ := T0
          have CA := fun w => C_impl_AddChecked s0 s1 s2 s3 t0 t1 t2 t3 w
          generalize addC ⟨⟨s0, s1⟩, ⟨s2, s3⟩⟩ ⟨⟨t0, t1⟩, ⟨t2, t3⟩⟩ = R0 at CA hsum
          obtain ⟨⟨r0, r1⟩, ⟨r2, r3⟩⟩ := R0
          dsimp only at CT CA
          have HSUM := Lib.hid hsum
          clear hck hsum hrt
          go_upto_region 9 with (first | (refine wpList_alloc rfl S 107 _ rfl zCk ?_; intro ga w L hM T; clear F S; (try rw [HL.out] at hM); clear HL; (try simp [Act.put, Act.eval, Value.cells, splice] at hM); have HL := Lib.hid hM; clear hM; have S := T; clear T; have F := factsAll HL S; (try simp only [factsOf, cellsFrom, and_true, true_and, Nat.reduceAdd] at F)) | (refine wpList_store_box rfl S _ _ _ rfl 0 _ _ _ _ (atOf HL rfl) rfl _ rfl (by kernel_rfl) rfl rfl ?_; intro w L hM T; clear F S; (try rw [HL.out] at hM); clear HL; (try simp [Act.put, Act.eval, Value.cells, splice] at hM); have HL := Lib.hid hM; clear hM; have S := T; clear T; have F := factsAll HL S; (try simp only [factsOf, cellsFrom, and_true, true_and, Nat.reduceAdd] at F)) | (go_at_call 148; refine (C_impl_ckValid _ _ _ _ _).mono ?_; rintro e w ⟨rfl, hb⟩; replace S := S.grow hb; clear hb))
          have ct := fun w' (S' : St w0 w' L) => (S'.below.cell (p := ⟨b', off' + k, none⟩) hb').trans HTT.out
          have HL0 := HL; have F0 := F; refine wp_region_tree (S := fun w' => St w0 w' L) (.calm 0 (.calm 1 (.calm 2 (.calm 3 (.calm 4 (.calm 5 (.act 6 (.act 7 (.act 8 .fin .stop) .stop) .stop))))))) (by kernel_rfl) (by kernel_rfl) (by kernel_rfl) (by intro c a d v w h; cases d <;> exact h) ?_; replace S := S.drew
          repeat (first | (first | (refine tree_calm (v := ?_) ?_ rfl (by decide +kernel) rfl ?_ ?_; rotate_left; (focus (first | exact S | (refine S.sub (subL HL0 HL ?_); (repeat (first | exact List.Sublist.refl _ | apply List.Sublist.cons)); done))); (focus (intro w' hS'; (try dsimp only at hS'); go_simp; try rfl)); (try simp only [Act.put, List.setIfInBounds_toArray, List.set_cons_zero, List.set_cons_succ])) | (refine tree_any (v := ?_) ?_ rfl rfl ?_ ?_; rotate_left; (focus (first | exact S | (refine S.sub (subL HL0 HL ?_); (repeat (first | exact List.Sublist.refl _ | apply List.Sublist.cons)); done))); (focus (intro w'; go_simp; try rfl)); (try simp only [Act.put, List.setIfInBounds_toArray, List.set_cons_zero, List.set_cons_succ]))) | (refine tree_skip ?_ rfl rfl ?_; (focus (first | exact S | (refine S.sub (subL HL0 HL ?_); (repeat (first | exact List.Sublist.refl _ | apply List.Sublist.cons)); done))); (try simp only [Act.put, List.setIfInBounds_toArray, List.set_cons_zero, List.set_cons_succ])) | (refine tree_act rfl rfl ?_ tree_stop; intro K hK; (refine wp_store_box S _ _ _ rfl 1 _ _ _ _ (atOf HL rfl) rfl _ rfl (by kernel_rfl) rfl rfl ?_; intro w L hM T; clear F S; (try rw [HL.out] at hM); clear HL; (try simp [Act.put, Act.eval, Value.cells, splice] at hM); have HL := Lib.hid hM; clear hM; have S := T; clear T; have F := factsAll HL S; (try simp only [factsOf, cellsFrom, and_true, true_and, Nat.reduceAdd] at F)); (refine hK.out _ _ ?_ ?_; (focus (first | exact fun _ => S | (intro _; refine S.sub (subL HL0 HL ?_); (repeat (first | exact List.Sublist.refl _ | apply List.Sublist.cons)); done) | (refine sink_no ?_; kernel_rfl))); clear hK K; (try simp only [Act.put, List.setIfInBounds_toArray, List.set_cons_zero, List.set_cons_succ]))) | (refine tree_act rfl rfl ?_ tree_stop; intro K hK; go_wp2_with (first | (go_at_call 153; refine (CT _).mono ?_; rintro e w ⟨rfl, hb⟩; replace S := S.grow hb; clear hb) | (go_at_call 152; refine (CA _).mono ?_; rintro e w ⟨rfl, hb⟩; replace S := S.grow hb; clear hb)); (refine hK.out _ _ ?_ ?_; (focus (first | exact fun _ => S | (intro _; refine S.sub (subL HL0 HL ?_); (repeat (first | exact List.Sublist.refl _ | apply List.Sublist.cons)); done) | (refine sink_no ?_; kernel_rfl))); clear hK K; (try simp only [Act.put, List.setIfInBounds_toArray, List.set_cons_zero, List.set_cons_succ]))))
          refine tree_fin ?_
          clear HL0 F0 ct CT CA
          go_wp2
          go_roundw
          case rel =>
            refine ⟨k + 1, r0, r1, r2, r3, _, by omega, by go_num, HSUM, Lib.hid (fun j hj => ?_), Lib.hid rfl, by rw [HL.out] at S; exact S.sub (.cons _ (.refl _))⟩
            rcases Nat.lt_or_ge j k with h | h
            · exact HO.out j h
            · obtain rfl : j = k := by omega
              exact HOK.out
          case measure => simp [intOf]; omega
      · obtain rfl : k = m := by omega
        have EE := Lib.hid ((batchSum_ok (batchOk_iff.2 ⟨by omega, HM.out, fun j hj => HR.out j (by rw [HM.out]; exact hj), HO.out⟩)).trans HS.out)
        go_wp2_with (first | (refine wpList_store_box rfl S _ _ _ rfl 1 _ _ _ _ (atOf HL rfl) rfl _ rfl (by kernel_rfl) rfl rfl ?_; intro w L hM T; clear F S; (try rw [HL.out] at hM); clear HL; (try simp [Act.put, Act.eval, Value.cells, splice] at hM); have HL := Lib.hid hM; clear hM; have S := T; clear T; have F := factsAll HL S; (try simp only [factsOf, cellsFrom, and_true, true_and, Nat.reduceAdd] at F)))
        ((try simp only [Exit.inBlock, Exit.then]); refine ret1 rfl (resCell S HL 1 rfl rfl (by kernel_rfl)) rfl ?_)
        exact ⟨by rw [EE.out] <;> rfl, S.below⟩
theorem C_spec_BatchSum (v u : Value) (n : Nat) (zs ts : List Int) (w0 : World) (hx : zs.length = n * 4) (h : Sees w0 4 v n (ints zs)) (ht : Ints w0 u ts) :
    Calls Try.prog 75 #[v, u] w0 fun e w' => e = .returned (.agg #[.int .i64 (batchSum n zs ts).v.a, .int .i64 (batchSum n zs ts).v.b, .int .i64 (batchSum n zs ts).m.a, .int .i64 (batchSum n zs ts).m.b]) ∧ Below w0.heap.size w0 w' := by
  have HT := Lib.hid ht
  obtain ⟨hl, A, cap, rfl, hcap, hmax, hA⟩ := h
  obtain ⟨_, B, cap', rfl, hcap', hmax', hB⟩ := ht
  obtain ⟨m, hm⟩ : ∃ m, ts.length = m := ⟨_, rfl⟩
  have HB := Lib.hid hB
  clear hB
  rw [hm] at hcap' HB HT ⊢
  have HM := Lib.hid hm
  have HX := Lib.hid hx
  have HA := Lib.hid hA
  clear hl hA hx hm
  unfold maxLen at hmax hmax'
  by_cases hbig : n > 20
  · rw [batch_big hbig]
    obtain ⟨L, HL, S⟩ := st_start w0; have F : True := trivial
    go_enter Try.func75, Try.ntmps75
    go_wp2_with (first | (refine wpList_box rfl S _ _ rfl ?_; intro g w L hM T; clear F S; (try rw [HL.out] at hM); clear HL; (try simp [Act.put, Act.eval, Value.cells, splice] at hM); have HL := Lib.hid hM; clear hM; have S := T; clear T; have F := factsAll HL S; (try simp only [factsOf, cellsFrom, and_true, true_and, Nat.reduceAdd] at F)) | (refine wpList_alloc rfl S 107 _ rfl zCk ?_; intro g w L hM T; clear F S; (try rw [HL.out] at hM); clear HL; (try simp [Act.put, Act.eval, Value.cells, splice] at hM); have HL := Lib.hid hM; clear hM; have S := T; clear T; have F := factsAll HL S; (try simp only [factsOf, cellsFrom, and_true, true_and, Nat.reduceAdd] at F)) | (refine wpList_store_box rfl S _ _ _ rfl 0 _ _ _ _ (atOf HL rfl) rfl _ rfl (by kernel_rfl) rfl rfl ?_; intro w L hM T; clear F S; (try rw [HL.out] at hM); clear HL; (try simp [Act.put, Act.eval, Value.cells, splice] at hM); have HL := Lib.hid hM; clear hM; have S := T; clear T; have F := factsAll HL S; (try simp only [factsOf, cellsFrom, and_true, true_and, Nat.reduceAdd] at F)) | (refine wpList_store_box rfl S _ _ _ rfl 1 _ _ _ _ (atOf HL rfl) rfl _ rfl (by kernel_rfl) rfl rfl ?_; intro w L hM T; clear F S; (try rw [HL.out] at hM); clear HL; (try simp [Act.put, Act.eval, Value.cells, splice] at hM); have HL := Lib.hid hM; clear hM; have S := T; clear T; have F := factsAll HL S; (try simp only [factsOf, cellsFrom, and_true, true_and, Nat.reduceAdd] at F)) | (refine wpList_store_box rfl S _ _ _ rfl 2 _ _ _ _ (atOf HL rfl) rfl _ rfl (by kernel_rfl) rfl rfl ?_; intro w L hM T; clear F S; (try rw [HL.out] at hM); clear HL; (try simp [Act.put, Act.eval, Value.cells, splice] at hM); have HL := Lib.hid hM; clear hM; have S := T; clear T; have F := factsAll HL S; (try simp only [factsOf, cellsFrom, and_true, true_and, Nat.reduceAdd] at F)) | (refine wpList_store_box rfl S _ _ _ rfl 3 _ _ _ _ (atOf HL rfl) rfl _ rfl (by kernel_rfl) rfl rfl ?_; intro w L hM T; clear F S; (try rw [HL.out] at hM); clear HL; (try simp [Act.put, Act.eval, Value.cells, splice] at hM); have HL := Lib.hid hM; clear hM; have S := T; clear T; have F := factsAll HL S; (try simp only [factsOf, cellsFrom, and_true, true_and, Nat.reduceAdd] at F)) | (go_at_call 143; refine (C_spec_bad _).mono ?_; rintro e w ⟨rfl, hb⟩; replace S := S.grow hb; clear hb) )
    ((try simp only [Exit.inBlock, Exit.then]); refine ret1 rfl (resCell S HL 1 rfl rfl (by kernel_rfl)) rfl ?_)
    exact ⟨rfl, S.below⟩
  by_cases hmn : m = n
  rotate_left
  · rw [batch_len (by rw [HM.out]; exact hmn)]
    have hmn' : ((n : Int) != m) = true := by simp; omega
    obtain ⟨L, HL, S⟩ := st_start w0; have F : True := trivial
    go_enter Try.func75, Try.ntmps75
    go_wp2_with (first | (refine wpList_box rfl S _ _ rfl ?_; intro g w L hM T; clear F S; (try rw [HL.out] at hM); clear HL; (try simp [Act.put, Act.eval, Value.cells, splice] at hM); have HL := Lib.hid hM; clear hM; have S := T; clear T; have F := factsAll HL S; (try simp only [factsOf, cellsFrom, and_true, true_and, Nat.reduceAdd] at F)) | (refine wpList_alloc rfl S 107 _ rfl zCk ?_; intro g w L hM T; clear F S; (try rw [HL.out] at hM); clear HL; (try simp [Act.put, Act.eval, Value.cells, splice] at hM); have HL := Lib.hid hM; clear hM; have S := T; clear T; have F := factsAll HL S; (try simp only [factsOf, cellsFrom, and_true, true_and, Nat.reduceAdd] at F)) | (refine wpList_store_box rfl S _ _ _ rfl 0 _ _ _ _ (atOf HL rfl) rfl _ rfl (by kernel_rfl) rfl rfl ?_; intro w L hM T; clear F S; (try rw [HL.out] at hM); clear HL; (try simp [Act.put, Act.eval, Value.cells, splice] at hM); have HL := Lib.hid hM; clear hM; have S := T; clear T; have F := factsAll HL S; (try simp only [factsOf, cellsFrom, and_true, true_and, Nat.reduceAdd] at F)) | (refine wpList_store_box rfl S _ _ _ rfl 1 _ _ _ _ (atOf HL rfl) rfl _ rfl (by kernel_rfl) rfl rfl ?_; intro w L hM T; clear F S; (try rw [HL.out] at hM); clear HL; (try simp [Act.put, Act.eval, Value.cells, splice] at hM); have HL := Lib.hid hM; clear hM; have S := T; clear T; have F := factsAll HL S; (try simp only [factsOf, cellsFrom, and_true, true_and, Nat.reduceAdd] at F)) | (refine wpList_store_box rfl S _ _ _ rfl 2 _ _ _ _ (atOf HL rfl) rfl _ rfl (by kernel_rfl) rfl rfl ?_; intro w L hM T; clear F S; (try rw [HL.out] at hM); clear HL; (try simp [Act.put, Act.eval, Value.cells, splice] at hM); have HL := Lib.hid hM; clear hM; have S := T; clear T; have F := factsAll HL S; (try simp only [factsOf, cellsFrom, and_true, true_and, Nat.reduceAdd] at F)) | (refine wpList_store_box rfl S _ _ _ rfl 3 _ _ _ _ (atOf HL rfl) rfl _ rfl (by kernel_rfl) rfl rfl ?_; intro w L hM T; clear F S; (try rw [HL.out] at hM); clear HL; (try simp [Act.put, Act.eval, Value.cells, splice] at hM); have HL := Lib.hid hM; clear hM; have S := T; clear T; have F := factsAll HL S; (try simp only [factsOf, cellsFrom, and_true, true_and, Nat.reduceAdd] at F)) | (go_at_call 143; refine (C_spec_bad _).mono ?_; rintro e w ⟨rfl, hb⟩; replace S := S.grow hb; clear hb) )
    ((try simp only [Exit.inBlock, Exit.then]); refine ret1 rfl (resCell S HL 1 rfl rfl (by kernel_rfl)) rfl ?_)
    exact ⟨rfl, S.below⟩
  subst hmn
  obtain ⟨L, HL, S⟩ := st_start w0; have F : True := trivial
  go_enter Try.func75, Try.ntmps75
  go_upto_region 1 with (first | (refine wpList_alloc rfl S 107 _ rfl zCk ?_; intro gr w L hM T; clear F S; (try rw [HL.out] at hM); clear HL; (try simp [Act.put, Act.eval, Value.cells, splice] at hM); have HL := Lib.hid hM; clear hM; have S := T; clear T; have F := factsAll HL S; (try simp only [factsOf, cellsFrom, and_true, true_and, Nat.reduceAdd] at F)))
  go_upto_region 2 with (first | (refine wpList_alloc rfl S 107 _ rfl zCk ?_; intro gb w L hM T; clear F S; (try rw [HL.out] at hM); clear HL; (try simp [Act.put, Act.eval, Value.cells, splice] at hM); have HL := Lib.hid hM; clear hM; have S := T; clear T; have F := factsAll HL S; (try simp only [factsOf, cellsFrom, and_true, true_and, Nat.reduceAdd] at F)) | (refine wpList_store_box rfl S _ _ _ rfl 0 _ _ _ _ (atOf HL rfl) rfl _ rfl (by kernel_rfl) rfl rfl ?_; intro w L hM T; clear F S; (try rw [HL.out] at hM); clear HL; (try simp [Act.put, Act.eval, Value.cells, splice] at hM); have HL := Lib.hid hM; clear hM; have S := T; clear T; have F := factsAll HL S; (try simp only [factsOf, cellsFrom, and_true, true_and, Nat.reduceAdd] at F)) | (go_at_call 143; refine (C_spec_bad _).mono ?_; rintro e w ⟨rfl, hb⟩; replace S := S.grow hb; clear hb))
  go_wp2_with (first | (refine wpList_box rfl S _ _ rfl ?_; intro g w L hM T; clear F S; (try rw [HL.out] at hM); clear HL; (try simp [Act.put, Act.eval, Value.cells, splice] at hM); have HL := Lib.hid hM; clear hM; have S := T; clear T; have F := factsAll HL S; (try simp only [factsOf, cellsFrom, and_true, true_and, Nat.reduceAdd] at F)) | (refine wpList_alloc rfl S 107 _ rfl zCk ?_; intro g w L hM T; clear F S; (try rw [HL.out] at hM); clear HL; (try simp [Act.put, Act.eval, Value.cells, splice] at hM); have HL := Lib.hid hM; clear hM; have S := T; clear T; have F := factsAll HL S; (try simp only [factsOf, cellsFrom, and_true, true_and, Nat.reduceAdd] at F)) | (refine wpList_store_box rfl S _ _ _ rfl 0 _ _ _ _ (atOf HL rfl) rfl _ rfl (by kernel_rfl) rfl rfl ?_; intro w L hM T; clear F S; (try rw [HL.out] at hM); clear HL; (try simp [Act.put, Act.eval, Value.cells, splice] at hM); have HL := Lib.hid hM; clear hM; have S := T; clear T; have F := factsAll HL S; (try simp only [factsOf, cellsFrom, and_true, true_and, Nat.reduceAdd] at F)) | (refine wpList_store_box rfl S _ _ _ rfl 1 _ _ _ _ (atOf HL rfl) rfl _ rfl (by kernel_rfl) rfl rfl ?_; intro w L hM T; clear F S; (try rw [HL.out] at hM); clear HL; (try simp [Act.put, Act.eval, Value.cells, splice] at hM); have HL := Lib.hid hM; clear hM; have S := T; clear T; have F := factsAll HL S; (try simp only [factsOf, cellsFrom, and_true, true_and, Nat.reduceAdd] at F)) | (refine wpList_store_box rfl S _ _ _ rfl 2 _ _ _ _ (atOf HL rfl) rfl _ rfl (by kernel_rfl) rfl rfl ?_; intro w L hM T; clear F S; (try rw [HL.out] at hM); clear HL; (try simp [Act.put, Act.eval, Value.cells, splice] at hM); have HL := Lib.hid hM; clear hM; have S := T; clear T; have F := factsAll HL S; (try simp only [factsOf, cellsFrom, and_true, true_and, Nat.reduceAdd] at F)) | (refine wpList_store_box rfl S _ _ _ rfl 3 _ _ _ _ (atOf HL rfl) rfl _ rfl (by kernel_rfl) rfl rfl ?_; intro w L hM T; clear F S; (try rw [HL.out] at hM); clear HL; (try simp [Act.put, Act.eval, Value.cells, splice] at hM); have HL := Lib.hid hM; clear hM; have S := T; clear T; have F := factsAll HL S; (try simp only [factsOf, cellsFrom, and_true, true_and, Nat.reduceAdd] at F))  )
  go_loopw [7] (fun i wr => ∃ (k : Nat) (s0 s1 s2 s3 : Int) (L : List Ent), k ≤ m ∧ i = .int .i64 k ∧ Hid (sumTo zs ts k = ⟨⟨s0, s1⟩, ⟨s2, s3⟩⟩) ∧ Hid (∀ j, j < k → (ckAt zs j).ok = true ∧ rv (ts.getD j 0) = true) ∧ Hid (L = [.box g 107 [.int .i64 s0, .int .i64 s1, .int .i64 s2, .int .i64 s3], .box gb 107 [.int .i64 (-1), .int .i64 (-1), .int .i64 (-1), .int .i64 (-1)], .box gr 107 [.int .i64 0, .int .i64 0, .int .i64 0, .int .i64 0]]) ∧ St w0 wr L) (fun i _ => m - (intOf i).toNat)
  case atStart => exact ⟨0, 0, 0, 0, 0, L, Nat.zero_le _, rfl, Lib.hid rfl, Lib.hid (fun j hj => absurd hj (by omega)), HL, S⟩
  case round =>
    clear F HL S
    obtain ⟨k, s0, s1, s2, s3, L, hk, rfl, HS, HO, HL, S⟩ := hrel
    have F := factsAll HL S
    simp only [factsOf, cellsFrom, and_true, true_and, Nat.reduceAdd] at F
    by_cases hlt : k < m
    · obtain ⟨b, off, rfl, hb, hc⟩ := HA.out (by omega)
      obtain ⟨b', off', rfl, hb', hc'⟩ := HB.out (by omega)
      have hcc : ∀ j i u, (ints zs)[j + i]? = some u → w0.cell? ⟨b, off + j + i, none⟩ = some u := fun j i u h => by rw [Nat.add_assoc]; exact hc _ _ h
      have q : k * 4 + 4 ≤ zs.length := by rw [HX.out]; omega
      have D0 := Lib.hid (hc (k * 4) _ (ints_getD zs (k * 4) (by omega)))
      have D1 := Lib.hid (hcc (k * 4) 1 _ (ints_getD zs (k * 4 + 1) (by omega)))
      have D2 := Lib.hid (hcc (k * 4) 2 _ (ints_getD zs (k * 4 + 2) (by omega)))
      have D3 := Lib.hid (hcc (k * 4) 3 _ (ints_getD zs (k * 4 + 3) (by omega)))
      have ht := hc' k _ (ints_getD ts k (by rw [HM.out]; exact hlt))
      have hck : ckAt zs k = ⟨⟨zs.getD (k * 4) 0, zs.getD (k * 4 + 1) 0⟩, ⟨zs.getD (k * 4 + 2) 0, zs.getD (k * 4 + 3) 0⟩⟩ := rfl
      have hsum : sumTo zs ts (k + 1) = addC ⟨⟨s0, s1⟩, ⟨s2, s3⟩⟩ (timesC (ckAt zs k) (ts.getD k 0)) := by rw [← HS.out]; rfl
      obtain ⟨t, htk⟩ : ∃ t, ts.getD k 0 = t := ⟨_, rfl⟩
      rw [htk] at ht hsum
      generalize zs.getD (k * 4) 0 = x0 at hck D0
      generalize zs.getD (k * 4 + 1) 0 = x1 at hck D1
      generalize zs.getD (k * 4 + 2) 0 = x2 at hck D2
      generalize zs.getD (k * 4 + 3) 0 = x3 at hck D3
      have HTT := Lib.hid ht
      clear hc hcc q hc' ht
      have d0 := fun w' (S' : St w0 w' L) => (S'.below.cell (p := ⟨b, off + k * 4, none⟩) hb).trans D0.out
      have d1 := fun w' (S' : St w0 w' L) => (S'.below.cell (p := ⟨b, off + k * 4 + 1, none⟩) hb).trans D1.out
      have d2 := fun w' (S' : St w0 w' L) => (S'.below.cell (p := ⟨b, off + k * 4 + 2, none⟩) hb).trans D2.out
      have d3 := fun w' (S' : St w0 w' L) => (S'.below.cell (p := ⟨b, off + k * 4 + 3, none⟩) hb).trans D3.out
      have ct := fun w' (S' : St w0 w' L) => (S'.below.cell (p := ⟨b', off' + k, none⟩) hb').trans HTT.out
      by_cases hrt : rv t = true
      rotate_left
      · have hrt' : rv t = false := by simpa using hrt
        have EE := Lib.hid (batch_time (zs := zs) hlt (by rw [htk]; exact hrt'))
        clear hck hsum hrt
        go_wp2_with (first | (refine wpList_store_box rfl S _ _ _ rfl 2 _ _ _ _ (atOf HL rfl) rfl _ rfl (by kernel_rfl) rfl rfl ?_; intro w L hM T; clear F S; (try rw [HL.out] at hM); clear HL; (try simp [Act.put, Act.eval, Value.cells, splice] at hM); have HL := Lib.hid hM; clear hM; have S := T; clear T; have F := factsAll HL S; (try simp only [factsOf, cellsFrom, and_true, true_and, Nat.reduceAdd] at F)) | (go_at_call 140; refine (C_spec_RingValid _ _).mono ?_; rintro e w' ⟨rfl, rfl⟩) | (go_at_call 139; refine (C_spec_SharedValid _ _ _).mono ?_; rintro e w ⟨rfl, hb⟩; replace S := S.grow hb; clear hb))
        ((try simp only [Exit.inBlock, Exit.then]); refine ret1 rfl (resCell S HL 2 rfl rfl (by kernel_rfl)) rfl ?_)
        exact ⟨by rw [EE.out] <;> rfl, S.below⟩
      by_cases hv : Sh.ok ⟨x0, x1⟩ = true
      rotate_left
      · have hv' : Sh.ok ⟨x0, x1⟩ = false := by simpa using hv
        have EE := Lib.hid (batch_ck (ts := ts) hlt (by rw [hck]; simp [Ck.ok, hv']))
        clear hck hsum hv
        go_wp2_with (first | (refine wpList_store_box rfl S _ _ _ rfl 2 _ _ _ _ (atOf HL rfl) rfl _ rfl (by kernel_rfl) rfl rfl ?_; intro w L hM T; clear F S; (try rw [HL.out] at hM); clear HL; (try simp [Act.put, Act.eval, Value.cells, splice] at hM); have HL := Lib.hid hM; clear hM; have S := T; clear T; have F := factsAll HL S; (try simp only [factsOf, cellsFrom, and_true, true_and, Nat.reduceAdd] at F)) | (go_at_call 140; refine (C_spec_RingValid _ _).mono ?_; rintro e w' ⟨rfl, rfl⟩) | (go_at_call 139; refine (C_spec_SharedValid _ _ _).mono ?_; rintro e w ⟨rfl, hb⟩; replace S := S.grow hb; clear hb))
        ((try simp only [Exit.inBlock, Exit.then]); refine ret1 rfl (resCell S HL 2 rfl rfl (by kernel_rfl)) rfl ?_)
        exact ⟨by rw [EE.out] <;> rfl, S.below⟩
      by_cases hm' : Sh.ok ⟨x2, x3⟩ = true
      rotate_left
      · have hm2 : Sh.ok ⟨x2, x3⟩ = false := by simpa using hm'
        have EE := Lib.hid (batch_ck (ts := ts) hlt (by rw [hck]; simp [Ck.ok, hm2]))
        clear hck hsum hm'
        go_wp2_with (first | (refine wpList_store_box rfl S _ _ _ rfl 2 _ _ _ _ (atOf HL rfl) rfl _ rfl (by kernel_rfl) rfl rfl ?_; intro w L hM T; clear F S; (try rw [HL.out] at hM); clear HL; (try simp [Act.put, Act.eval, Value.cells, splice] at hM); have HL := Lib.hid hM; clear hM; have S := T; clear T; have F := factsAll HL S; (try simp only [factsOf, cellsFrom, and_true, true_and, Nat.reduceAdd] at F)) | (go_at_call 140; refine (C_spec_RingValid _ _).mono ?_; rintro e w' ⟨rfl, rfl⟩) | (go_at_call 139; refine (C_spec_SharedValid _ _ _).mono ?_; rintro e w ⟨rfl, hb⟩; replace S := S.grow hb; clear hb))
        ((try simp only [Exit.inBlock, Exit.then]); refine ret1 rfl (resCell S HL 2 rfl rfl (by kernel_rfl)) rfl ?_)
        exact ⟨by rw [EE.out] <;> rfl, S.below⟩
      have ho : (ckAt zs k).ok = true := by rw [hck]; simp [Ck.ok, hv, hm']
      have HOK := Lib.hid (show (ckAt zs k).ok = true ∧ rv (ts.getD k 0) = true from ⟨ho, by rw [htk]; exact hrt⟩)
      rw [hck] at hsum
      clear ho
      have CT := fun w => C_spec_TimesChecked x0 x1 x2 x3 t w
      generalize timesC ⟨⟨x0, x1⟩, ⟨x2, x3⟩⟩ t = T0 at CT hsum
      obtain ⟨⟨t0, t1⟩, ⟨t2, t3⟩⟩ := T0
      have CA := fun w => C_spec_AddChecked s0 s1 s2 s3 t0 t1 t2 t3 w
      generalize addC ⟨⟨s0, s1⟩, ⟨s2, s3⟩⟩ ⟨⟨t0, t1⟩, ⟨t2, t3⟩⟩ = R0 at CA hsum
      obtain ⟨⟨r0, r1⟩, ⟨r2, r3⟩⟩ := R0
      dsimp only at CT CA
      have HSUM := Lib.hid hsum
      clear hck hsum htk
      go_upto_region 10 with (first | (go_at_call 140; refine (C_spec_RingValid _ _).mono ?_; rintro e w' ⟨rfl, rfl⟩) | (go_at_call 139; refine (C_spec_SharedValid _ _ _).mono ?_; rintro e w ⟨rfl, hb⟩; replace S := S.grow hb; clear hb))
      have HL0 := HL; have F0 := F; refine wp_region_tree (S := fun w' => St w0 w' L) (.calm 0 (.calm 1 (.calm 2 (.calm 3 (.calm 4 (.calm 5 (.calm 6 (.calm 7 (.calm 8 (.act 9 (.act 10 (.act 11 .fin .stop) .stop) .stop)))))))))) (by kernel_rfl) (by kernel_rfl) (by kernel_rfl) (by intro c a d v w h; cases d <;> exact h) ?_; replace S := S.drew
      repeat (first | (first | (refine tree_calm (v := ?_) ?_ rfl (by decide +kernel) rfl ?_ ?_; rotate_left; (focus (first | exact S | (refine S.sub (subL HL0 HL ?_); (repeat (first | exact List.Sublist.refl _ | apply List.Sublist.cons)); done))); (focus (intro w' hS'; (try dsimp only at hS'); go_simp; try rfl)); (try simp only [Act.put, List.setIfInBounds_toArray, List.set_cons_zero, List.set_cons_succ])) | (refine tree_any (v := ?_) ?_ rfl rfl ?_ ?_; rotate_left; (focus (first | exact S | (refine S.sub (subL HL0 HL ?_); (repeat (first | exact List.Sublist.refl _ | apply List.Sublist.cons)); done))); (focus (intro w'; go_simp; try rfl)); (try simp only [Act.put, List.setIfInBounds_toArray, List.set_cons_zero, List.set_cons_succ]))) | (refine tree_skip ?_ rfl rfl ?_; (focus (first | exact S | (refine S.sub (subL HL0 HL ?_); (repeat (first | exact List.Sublist.refl _ | apply List.Sublist.cons)); done))); (try simp only [Act.put, List.setIfInBounds_toArray, List.set_cons_zero, List.set_cons_succ])) | (refine tree_act rfl rfl ?_ tree_stop; intro K hK; (refine wp_store_box S _ _ _ rfl 0 _ _ _ _ (atOf HL rfl) rfl _ rfl (by kernel_rfl) rfl rfl ?_; intro w L hM T; clear F S; (try rw [HL.out] at hM); clear HL; (try simp [Act.put, Act.eval, Value.cells, splice] at hM); have HL := Lib.hid hM; clear hM; have S := T; clear T; have F := factsAll HL S; (try simp only [factsOf, cellsFrom, and_true, true_and, Nat.reduceAdd] at F)); (refine hK.out _ _ ?_ ?_; (focus (first | exact fun _ => S | (intro _; refine S.sub (subL HL0 HL ?_); (repeat (first | exact List.Sublist.refl _ | apply List.Sublist.cons)); done) | (refine sink_no ?_; kernel_rfl))); clear hK K; (try simp only [Act.put, List.setIfInBounds_toArray, List.set_cons_zero, List.set_cons_succ]))) | (refine tree_act rfl rfl ?_ tree_stop; intro K hK; go_wp2_with (first | (go_at_call 145; refine (CT _).mono ?_; rintro e w ⟨rfl, hb⟩; replace S := S.grow hb; clear hb) | (go_at_call 144; refine (CA _).mono ?_; rintro e w ⟨rfl, hb⟩; replace S := S.grow hb; clear hb)); (refine hK.out _ _ ?_ ?_; (focus (first | exact fun _ => S | (intro _; refine S.sub (subL HL0 HL ?_); (repeat (first | exact List.Sublist.refl _ | apply List.Sublist.cons)); done) | (refine sink_no ?_; kernel_rfl))); clear hK K; (try simp only [Act.put, List.setIfInBounds_toArray, List.set_cons_zero, List.set_cons_succ]))))
      refine tree_fin ?_
      clear HL0 F0 ct d0 d1 d2 d3 CT CA
      go_wp2
      go_roundw
      case rel =>
        refine ⟨k + 1, r0, r1, r2, r3, _, by omega, by go_num, HSUM, Lib.hid (fun j hj => ?_), Lib.hid rfl, by rw [HL.out] at S; exact S⟩
        rcases Nat.lt_or_ge j k with h | h
        · exact HO.out j h
        · obtain rfl : j = k := by omega
          exact HOK.out
      case measure => simp [intOf]; omega
    · obtain rfl : k = m := by omega
      have EE := Lib.hid ((batchSum_ok (batchOk_iff.2 ⟨by omega, HM.out, fun j hj => (HO.out j hj).2, fun j hj => (HO.out j hj).1⟩)).trans HS.out)
      go_wp2_with (first | (refine wpList_store_box rfl S _ _ _ rfl 2 _ _ _ _ (atOf HL rfl) rfl _ rfl (by kernel_rfl) rfl rfl ?_; intro w L hM T; clear F S; (try rw [HL.out] at hM); clear HL; (try simp [Act.put, Act.eval, Value.cells, splice] at hM); have HL := Lib.hid hM; clear hM; have S := T; clear T; have F := factsAll HL S; (try simp only [factsOf, cellsFrom, and_true, true_and, Nat.reduceAdd] at F)))
      ((try simp only [Exit.inBlock, Exit.then]); refine ret1 rfl (resCell S HL 2 rfl rfl (by kernel_rfl)) rfl ?_)
      exact ⟨by rw [EE.out] <;> rfl, S.below⟩
end Go.Proofs.Ytncbmmdldmdndaa
