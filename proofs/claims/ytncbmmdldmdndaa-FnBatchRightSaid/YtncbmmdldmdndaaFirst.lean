/-
  Contracts: the first checked number that cannot be opened.
-/
import Derived.Test.YtncbmmdldmdndaaCks
namespace Go.Proofs.Ytncbmmdldmdndaa
set_option linter.unusedSimpArgs false
set_option linter.unusedVariables false
set_option linter.unusedSectionVars false
open Go Go.RowKit
set_option maxHeartbeats 8000000
set_option maxRecDepth 20000
def firstW (n : Nat) (zs : List Int) (key : Int) : Int :=
  if decide (n ≤ 20) && keyOk key then (match (List.range n).find? (fun k => !openOk (ckAt zs k) key) with | some k => (k : Int) | none => -1) else -1
theorem firstW_bad {n k : Nat} {zs : List Int} {key : Int} (hn : n ≤ 20) (hk : keyOk key = true) (hlt : k < n) (hall : ∀ j, j < k → openOk (ckAt zs j) key = true) (h : openOk (ckAt zs k) key = false) : firstW n zs key = k := by
  have : (List.range n).find? (fun k => !openOk (ckAt zs k) key) = some k := by
    rw [List.find?_range_eq_some]
    refine ⟨by rw [h]; rfl, List.mem_range.2 hlt, fun j hj => by rw [hall j hj]; rfl⟩
  simp only [firstW, decide_eq_true hn, hk, Bool.and_self, if_true, this]
theorem firstW_none {n : Nat} {zs : List Int} {key : Int} (hn : n ≤ 20) (hk : keyOk key = true) (hall : ∀ j, j < n → openOk (ckAt zs j) key = true) : firstW n zs key = -1 := by
  have : (List.range n).find? (fun k => !openOk (ckAt zs k) key) = none := by
    rw [List.find?_eq_none]
    intro j hj
    rw [hall j (List.mem_range.1 hj)]; simp
  simp only [firstW, decide_eq_true hn, hk, Bool.and_self, if_true, this]
theorem firstW_out {n : Nat} {zs : List Int} {key : Int} (h : (decide (n ≤ 20) && keyOk key) = false) : firstW n zs key = -1 := by
  simp [firstW, h]
theorem C_impl_FirstWrong (v : Value) (n : Nat) (zs : List Int) (key : Int) (w0 : World) (hx : zs.length = n * 4) (h : Sees w0 4 v n (ints zs)) :
    Calls Try.prog 24 #[v, .int .i64 key] w0 fun e w' => e = .returned (.int .i64 (firstW n zs key)) ∧ Below w0.heap.size w0 w' := by
  obtain ⟨hl, A, cap, rfl, hcap, hmax, hA⟩ := h
  have HX := Lib.hid hx
  have HA := Lib.hid hA
  clear hl hA hx
  unfold maxLen at hmax
  by_cases hbig : n > 20
  · have e : firstW n zs key = -1 := firstW_out (by rw [decide_eq_false (by omega)]; rfl)
    rw [e]
    clear e
    obtain ⟨L, HL, S⟩ := st_start w0; have F : True := trivial
    go_enter Try.func24, Try.ntmps24
    go_wp2
    go_ret
    exact ⟨rfl, S.below⟩
  cases hk : keyOk key with
  | false =>
    have e : firstW n zs key = -1 := firstW_out (by rw [hk]; simp)
    rw [e]
    clear e
    obtain ⟨L, HL, S⟩ := st_start w0; have F : True := trivial
    go_enter Try.func24, Try.ntmps24
    go_wp2_with (first | (refine wpList_box rfl S _ _ rfl ?_; intro g w L hM T; clear F S; (try rw [HL.out] at hM); clear HL; (try simp [Act.put, Act.eval, Value.cells, splice] at hM); have HL := Lib.hid hM; clear hM; have S := T; clear T; have F := factsAll HL S; (try simp only [factsOf, cellsFrom, and_true, true_and, Nat.reduceAdd] at F))  | (refine wpList_store_box rfl S _ _ _ rfl 0 _ _ _ _ (atOf HL rfl) rfl _ rfl (by kernel_rfl) rfl rfl ?_; intro w L hM T; clear F S; (try rw [HL.out] at hM); clear HL; (try simp [Act.put, Act.eval, Value.cells, splice] at hM); have HL := Lib.hid hM; clear hM; have S := T; clear T; have F := factsAll HL S; (try simp only [factsOf, cellsFrom, and_true, true_and, Nat.reduceAdd] at F)) | (refine wpList_store_box rfl S _ _ _ rfl 1 _ _ _ _ (atOf HL rfl) rfl _ rfl (by kernel_rfl) rfl rfl ?_; intro w L hM T; clear F S; (try rw [HL.out] at hM); clear HL; (try simp [Act.put, Act.eval, Value.cells, splice] at hM); have HL := Lib.hid hM; clear hM; have S := T; clear T; have F := factsAll HL S; (try simp only [factsOf, cellsFrom, and_true, true_and, Nat.reduceAdd] at F)) | (refine wpList_store_box rfl S _ _ _ rfl 2 _ _ _ _ (atOf HL rfl) rfl _ rfl (by kernel_rfl) rfl rfl ?_; intro w L hM T; clear F S; (try rw [HL.out] at hM); clear HL; (try simp [Act.put, Act.eval, Value.cells, splice] at hM); have HL := Lib.hid hM; clear hM; have S := T; clear T; have F := factsAll HL S; (try simp only [factsOf, cellsFrom, and_true, true_and, Nat.reduceAdd] at F)) | (refine wpList_store_box rfl S _ _ _ rfl 3 _ _ _ _ (atOf HL rfl) rfl _ rfl (by kernel_rfl) rfl rfl ?_; intro w L hM T; clear F S; (try rw [HL.out] at hM); clear HL; (try simp [Act.put, Act.eval, Value.cells, splice] at hM); have HL := Lib.hid hM; clear hM; have S := T; clear T; have F := factsAll HL S; (try simp only [factsOf, cellsFrom, and_true, true_and, Nat.reduceAdd] at F)) | (go_at_call 77; refine (C_impl_keyValid _ _).mono ?_; rintro e w' ⟨rfl, rfl⟩) )
    go_ret
    exact ⟨rfl, S.below⟩
  | true =>
    have HK := Lib.hid hk
    obtain ⟨L, HL, S⟩ := st_start w0; have F : True := trivial
    go_enter Try.func24, Try.ntmps24
    go_wp2_with (first | (refine wpList_box rfl S _ _ rfl ?_; intro g w L hM T; clear F S; (try rw [HL.out] at hM); clear HL; (try simp [Act.put, Act.eval, Value.cells, splice] at hM); have HL := Lib.hid hM; clear hM; have S := T; clear T; have F := factsAll HL S; (try simp only [factsOf, cellsFrom, and_true, true_and, Nat.reduceAdd] at F))  | (refine wpList_store_box rfl S _ _ _ rfl 0 _ _ _ _ (atOf HL rfl) rfl _ rfl (by kernel_rfl) rfl rfl ?_; intro w L hM T; clear F S; (try rw [HL.out] at hM); clear HL; (try simp [Act.put, Act.eval, Value.cells, splice] at hM); have HL := Lib.hid hM; clear hM; have S := T; clear T; have F := factsAll HL S; (try simp only [factsOf, cellsFrom, and_true, true_and, Nat.reduceAdd] at F)) | (refine wpList_store_box rfl S _ _ _ rfl 1 _ _ _ _ (atOf HL rfl) rfl _ rfl (by kernel_rfl) rfl rfl ?_; intro w L hM T; clear F S; (try rw [HL.out] at hM); clear HL; (try simp [Act.put, Act.eval, Value.cells, splice] at hM); have HL := Lib.hid hM; clear hM; have S := T; clear T; have F := factsAll HL S; (try simp only [factsOf, cellsFrom, and_true, true_and, Nat.reduceAdd] at F)) | (refine wpList_store_box rfl S _ _ _ rfl 2 _ _ _ _ (atOf HL rfl) rfl _ rfl (by kernel_rfl) rfl rfl ?_; intro w L hM T; clear F S; (try rw [HL.out] at hM); clear HL; (try simp [Act.put, Act.eval, Value.cells, splice] at hM); have HL := Lib.hid hM; clear hM; have S := T; clear T; have F := factsAll HL S; (try simp only [factsOf, cellsFrom, and_true, true_and, Nat.reduceAdd] at F)) | (refine wpList_store_box rfl S _ _ _ rfl 3 _ _ _ _ (atOf HL rfl) rfl _ rfl (by kernel_rfl) rfl rfl ?_; intro w L hM T; clear F S; (try rw [HL.out] at hM); clear HL; (try simp [Act.put, Act.eval, Value.cells, splice] at hM); have HL := Lib.hid hM; clear hM; have S := T; clear T; have F := factsAll HL S; (try simp only [factsOf, cellsFrom, and_true, true_and, Nat.reduceAdd] at F)) | (go_at_call 77; refine (C_impl_keyValid _ _).mono ?_; rintro e w' ⟨rfl, rfl⟩) )
    go_loopw [19] (fun i wr => ∃ (k : Nat), k ≤ n ∧ i = .int .i64 k ∧ Hid (∀ j, j < k → openOk (ckAt zs j) key = true) ∧ St w0 wr []) (fun i _ => n - (intOf i).toNat)
    case atStart => exact ⟨0, Nat.zero_le _, rfl, Lib.hid (fun j hj => absurd hj (by omega)), by rw [HL.out] at S; exact S⟩
    case round =>
      clear F HL S
      obtain ⟨k, hkn, rfl, hall, S⟩ := hrel
      obtain ⟨L, HL⟩ : ∃ L : List Ent, Hid (L = []) := ⟨_, Lib.hid rfl⟩
      rw [← HL.out] at S
      have F : True := trivial
      by_cases hlt : k < n
      · obtain ⟨b, off, rfl, hb, hc⟩ := HA.out (by omega)
        have hcc : ∀ j i u, (ints zs)[j + i]? = some u → w0.cell? ⟨b, off + j + i, none⟩ = some u := fun j i u h => by rw [Nat.add_assoc]; exact hc _ _ h
        have q : k * 4 + 4 ≤ zs.length := by rw [HX.out]; omega
        have c0 := (S.below.cell (p := ⟨b, off + k * 4, none⟩) hb).trans (hc (k * 4) _ (ints_getD zs (k * 4) (by omega)))
        have c1 := (S.below.cell (p := ⟨b, off + k * 4 + 1, none⟩) hb).trans (hcc (k * 4) 1 _ (ints_getD zs (k * 4 + 1) (by omega)))
        have c2 := (S.below.cell (p := ⟨b, off + k * 4 + 2, none⟩) hb).trans (hcc (k * 4) 2 _ (ints_getD zs (k * 4 + 2) (by omega)))
        have c3 := (S.below.cell (p := ⟨b, off + k * 4 + 3, none⟩) hb).trans (hcc (k * 4) 3 _ (ints_getD zs (k * 4 + 3) (by omega)))
        have hck : ckAt zs k = ⟨⟨zs.getD (k * 4) 0, zs.getD (k * 4 + 1) 0⟩, ⟨zs.getD (k * 4 + 2) 0, zs.getD (k * 4 + 3) 0⟩⟩ := rfl
        generalize zs.getD (k * 4) 0 = x0 at c0 hck
        generalize zs.getD (k * 4 + 1) 0 = x1 at c1 hck
        generalize zs.getD (k * 4 + 2) 0 = x2 at c2 hck
        generalize zs.getD (k * 4 + 3) 0 = x3 at c3 hck
        have CK := fun w => C_impl_OpenChecked x0 x1 x2 x3 key w
        rw [← hck] at CK
        clear hc hcc q hck
        cases ho : openOk (ckAt zs k) key with
        | false =>
          have EE := Lib.hid (firstW_bad (by omega : n ≤ 20) HK.out hlt hall.out ho)
          simp only [ho] at CK
          clear ho
          generalize openC (ckAt zs k) key = oc at CK
          go_wp2_with (first | (refine wpList_alloc rfl S 107 _ rfl zCk ?_; intro g w L hM T; clear F S; (try rw [HL.out] at hM); clear HL; (try simp [Act.put, Act.eval, Value.cells, splice] at hM); have HL := Lib.hid hM; clear hM; have S := T; clear T; have F := factsAll HL S; (try simp only [factsOf, cellsFrom, and_true, true_and, Nat.reduceAdd] at F)) | (refine wpList_store_box rfl S _ _ _ rfl 0 _ _ _ _ (atOf HL rfl) rfl _ rfl (by kernel_rfl) rfl rfl ?_; intro w L hM T; clear F S; (try rw [HL.out] at hM); clear HL; (try simp [Act.put, Act.eval, Value.cells, splice] at hM); have HL := Lib.hid hM; clear hM; have S := T; clear T; have F := factsAll HL S; (try simp only [factsOf, cellsFrom, and_true, true_and, Nat.reduceAdd] at F)) | (go_at_call 80; refine (CK _).mono ?_; rintro e w ⟨rfl, hb⟩; replace S := S.grow hb; clear hb))
          go_ret
          exact ⟨by rw [EE.out]; rfl, S.below⟩
        | true =>
          have HO := Lib.hid ho
          simp only [ho] at CK
          clear ho
          generalize openC (ckAt zs k) key = oc at CK
          go_wp2_with (first | (refine wpList_alloc rfl S 107 _ rfl zCk ?_; intro g w L hM T; clear F S; (try rw [HL.out] at hM); clear HL; (try simp [Act.put, Act.eval, Value.cells, splice] at hM); have HL := Lib.hid hM; clear hM; have S := T; clear T; have F := factsAll HL S; (try simp only [factsOf, cellsFrom, and_true, true_and, Nat.reduceAdd] at F)) | (refine wpList_store_box rfl S _ _ _ rfl 0 _ _ _ _ (atOf HL rfl) rfl _ rfl (by kernel_rfl) rfl rfl ?_; intro w L hM T; clear F S; (try rw [HL.out] at hM); clear HL; (try simp [Act.put, Act.eval, Value.cells, splice] at hM); have HL := Lib.hid hM; clear hM; have S := T; clear T; have F := factsAll HL S; (try simp only [factsOf, cellsFrom, and_true, true_and, Nat.reduceAdd] at F)) | (go_at_call 80; refine (CK _).mono ?_; rintro e w ⟨rfl, hb⟩; replace S := S.grow hb; clear hb))
          go_roundw
          case rel =>
            refine ⟨k + 1, by omega, by go_num, Lib.hid (fun j hj => ?_), S.sub (List.nil_sublist _)⟩
            rcases Nat.lt_or_ge j k with h | h
            · exact hall.out j h
            · obtain rfl : j = k := by omega
              exact HO.out
          case measure => simp [intOf]; omega
      · obtain rfl : k = n := by omega
        have EE := Lib.hid (firstW_none (by omega : k ≤ 20) HK.out hall.out)
        go_wp2
        go_ret
        exact ⟨by rw [EE.out]; rfl, S.below⟩
end Go.Proofs.Ytncbmmdldmdndaa
