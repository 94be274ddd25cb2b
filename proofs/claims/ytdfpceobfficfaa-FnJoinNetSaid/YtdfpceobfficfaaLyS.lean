/-
  Contracts: rows of matrices and of layers: the laws' helpers.
-/
import Derived.Test.YtdfpceobfficfaaMat
import Derived.Test.YtdfpceobfficfaaLyP
namespace Go.Proofs.Ytdfpceobfficfaa
set_option linter.unusedSimpArgs false
set_option linter.unusedVariables false
set_option linter.unusedSectionVars false
open Go Go.RowKit
set_option maxHeartbeats 8000000
set_option maxRecDepth 20000
theorem infoMx : (Try.prog.info? 55).map (fun i => (i.zero, i.size, i.bytes)) = some (some (.agg #[.int .i64 0, .int .i64 0, .slice none 0 0]), 3, 40) := by kernel_rfl
theorem infoLy : (Try.prog.info? 33).map (fun i => (i.zero, i.size, i.bytes)) = some (some (.agg #[.int .i64 0, .slice none 0 0]), 2, 32) := by kernel_rfl
theorem zLy : (Try.prog.info? 33).bind (·.zero) = some (.agg #[.int .i64 0, .slice none 0 0]) := by kernel_rfl
theorem drop_at {α : Type} {l : List α} {k : Nat} {x : α} (h : l[k]? = some x) : l.drop k = x :: l.drop (k + 1) := by
  obtain ⟨h1, h2⟩ := List.getElem?_eq_some_iff.1 h
  rw [List.drop_eq_getElem_cons h1, h2]
theorem take_at {α : Type} {l : List α} {k : Nat} {x : α} (h : l[k]? = some x) : l.take (k + 1) = l.take k ++ [x] := by
  rw [List.take_add_one, h]; rfl
theorem some_at {α : Type} {l : List α} {n k : Nat} (hn : l.length = n) (h : k < n) : ∃ x, l[k]? = some x := ⟨_, List.getElem?_eq_getElem (by omega)⟩
theorem C_szMatrixS (v : Value) (ms : List Mx) (k z : Int) (w0 : World) (h : SeesMs w0 v ms) (hk : 0 ≤ k ∧ k ≤ 1000000000) (hz : szMs ms k = z) :
    Calls Try.prog 92 #[v, .int .i64 k] w0 fun e w' => e = .returned (.int .i64 z) ∧ Below w0.heap.size w0 w' := by
  obtain ⟨A, cap, rfl, hcap, hmax, hA⟩ := h
  obtain ⟨n, hn⟩ : ∃ n, ms.length = n := ⟨_, rfl⟩
  obtain ⟨k1, k2⟩ := hk
  unfold szMs at hz
  rw [hn] at hcap hA hz ⊢
  unfold maxLen at hmax
  by_cases hs : k - n < 0
  · rw [if_pos hs] at hz
    subst hz
    clear hA hn
    obtain ⟨L, HL, S⟩ := st_start w0; have F : True := trivial
    go_enter Try.func92, Try.ntmps92
    go_wp2_with (first | (refine wpList_box rfl S _ _ rfl ?_; intro g w L hM T; clear F S; (try rw [HL.out] at hM); clear HL; (try simp [Act.put, Act.eval, Value.cells, splice] at hM); have HL := Lib.hid hM; clear hM; have S := T; clear T; have F := factsAll HL S; (try simp only [factsOf, cellsFrom, and_true, true_and, Nat.reduceAdd] at F))  | (refine wpList_store_box rfl S _ _ _ rfl 0 _ _ _ _ (atOf HL rfl) rfl _ rfl (by kernel_rfl) rfl rfl ?_; intro w L hM T; clear F S; (try rw [HL.out] at hM); clear HL; (try simp [Act.put, Act.eval, Value.cells, splice] at hM); have HL := Lib.hid hM; clear hM; have S := T; clear T; have F := factsAll HL S; (try simp only [factsOf, cellsFrom, and_true, true_and, Nat.reduceAdd] at F)) | (refine wpList_store_box rfl S _ _ _ rfl 1 _ _ _ _ (atOf HL rfl) rfl _ rfl (by kernel_rfl) rfl rfl ?_; intro w L hM T; clear F S; (try rw [HL.out] at hM); clear HL; (try simp [Act.put, Act.eval, Value.cells, splice] at hM); have HL := Lib.hid hM; clear hM; have S := T; clear T; have F := factsAll HL S; (try simp only [factsOf, cellsFrom, and_true, true_and, Nat.reduceAdd] at F)) | (refine wpList_store_box rfl S _ _ _ rfl 2 _ _ _ _ (atOf HL rfl) rfl _ rfl (by kernel_rfl) rfl rfl ?_; intro w L hM T; clear F S; (try rw [HL.out] at hM); clear HL; (try simp [Act.put, Act.eval, Value.cells, splice] at hM); have HL := Lib.hid hM; clear hM; have S := T; clear T; have F := factsAll HL S; (try simp only [factsOf, cellsFrom, and_true, true_and, Nat.reduceAdd] at F)) | (refine wpList_store_box rfl S _ _ _ rfl 3 _ _ _ _ (atOf HL rfl) rfl _ rfl (by kernel_rfl) rfl rfl ?_; intro w L hM T; clear F S; (try rw [HL.out] at hM); clear HL; (try simp [Act.put, Act.eval, Value.cells, splice] at hM); have HL := Lib.hid hM; clear hM; have S := T; clear T; have F := factsAll HL S; (try simp only [factsOf, cellsFrom, and_true, true_and, Nat.reduceAdd] at F))  )
    go_ret
    exact ⟨rfl, S.below⟩
  rw [if_neg hs] at hz
  have HA := Lib.hid hA
  have HN := Lib.hid hn
  have HZ := Lib.hid hz
  clear hA hn hz
  obtain ⟨L, HL, S⟩ := st_start w0; have F : True := trivial
  go_enter Try.func92, Try.ntmps92
  go_wp2_with (first | (refine wpList_box rfl S _ _ rfl ?_; intro g w L hM T; clear F S; (try rw [HL.out] at hM); clear HL; (try simp [Act.put, Act.eval, Value.cells, splice] at hM); have HL := Lib.hid hM; clear hM; have S := T; clear T; have F := factsAll HL S; (try simp only [factsOf, cellsFrom, and_true, true_and, Nat.reduceAdd] at F))  | (refine wpList_store_box rfl S _ _ _ rfl 0 _ _ _ _ (atOf HL rfl) rfl _ rfl (by kernel_rfl) rfl rfl ?_; intro w L hM T; clear F S; (try rw [HL.out] at hM); clear HL; (try simp [Act.put, Act.eval, Value.cells, splice] at hM); have HL := Lib.hid hM; clear hM; have S := T; clear T; have F := factsAll HL S; (try simp only [factsOf, cellsFrom, and_true, true_and, Nat.reduceAdd] at F)) | (refine wpList_store_box rfl S _ _ _ rfl 1 _ _ _ _ (atOf HL rfl) rfl _ rfl (by kernel_rfl) rfl rfl ?_; intro w L hM T; clear F S; (try rw [HL.out] at hM); clear HL; (try simp [Act.put, Act.eval, Value.cells, splice] at hM); have HL := Lib.hid hM; clear hM; have S := T; clear T; have F := factsAll HL S; (try simp only [factsOf, cellsFrom, and_true, true_and, Nat.reduceAdd] at F)) | (refine wpList_store_box rfl S _ _ _ rfl 2 _ _ _ _ (atOf HL rfl) rfl _ rfl (by kernel_rfl) rfl rfl ?_; intro w L hM T; clear F S; (try rw [HL.out] at hM); clear HL; (try simp [Act.put, Act.eval, Value.cells, splice] at hM); have HL := Lib.hid hM; clear hM; have S := T; clear T; have F := factsAll HL S; (try simp only [factsOf, cellsFrom, and_true, true_and, Nat.reduceAdd] at F)) | (refine wpList_store_box rfl S _ _ _ rfl 3 _ _ _ _ (atOf HL rfl) rfl _ rfl (by kernel_rfl) rfl rfl ?_; intro w L hM T; clear F S; (try rw [HL.out] at hM); clear HL; (try simp [Act.put, Act.eval, Value.cells, splice] at hM); have HL := Lib.hid hM; clear hM; have S := T; clear T; have F := factsAll HL S; (try simp only [factsOf, cellsFrom, and_true, true_and, Nat.reduceAdd] at F))  )
  go_loopw [5, 1] (fun i l wr => ∃ (j : Nat) (q : Int), j ≤ n ∧ i = .int .i64 j ∧ l = .int .i64 q ∧ 0 ≤ q ∧ q ≤ 1000000000 ∧ Hid (szMsFrom (ms.drop j) q = z) ∧ St w0 wr L) (fun i _ _ => n - (intOf i).toNat)
  case atStart => exact ⟨0, k - n, Nat.zero_le _, rfl, rfl, by omega, by omega, HZ, S⟩
  case round =>
    clear S HZ
    obtain ⟨j, q, hj, rfl, rfl, q1, q2, HZ, S⟩ := hrel
    by_cases hlt : j < n
    · obtain ⟨b, off, rfl, hb, hc⟩ := HA.out (by omega)
      obtain ⟨m, hm⟩ := some_at HN.out hlt
      obtain ⟨u, c1, c2, c3, hu⟩ := hc j m hm
      obtain ⟨_, A', cap', rfl, hcap', hmax', _⟩ := hu
      have hz := HZ.out
      rw [drop_at hm] at hz
      have f1 := fun w' (S' : St w0 w' L) => (S'.below.cell (p := ⟨b, off + j * 3, none⟩) hb).trans c1
      have f2 := fun w' (S' : St w0 w' L) => (S'.below.cell (p := ⟨b, off + j * 3 + 1, none⟩) hb).trans c2
      have f3 := fun w' (S' : St w0 w' L) => (S'.below.cell (p := ⟨b, off + j * 3 + 2, none⟩) hb).trans c3
      clear hc c1 c2 c3 HZ hm
      unfold szMsFrom at hz
      by_cases hneg : q - m.xs.length < 0
      · have E := Lib.hid (if_pos hneg : (if q - m.xs.length < 0 then (-1 : Int) else q - m.xs.length) = -1)
        rw [if_pos hneg] at hz
        subst hz
        clear hneg
        go_wp2_with (first | (refine wpList_box rfl S _ _ rfl ?_; intro g w L hM T; clear F S; (try rw [HL.out] at hM); clear HL; (try simp [Act.put, Act.eval, Value.cells, splice] at hM); have HL := Lib.hid hM; clear hM; have S := T; clear T; have F := factsAll HL S; (try simp only [factsOf, cellsFrom, and_true, true_and, Nat.reduceAdd] at F)) | (go_at_call 120; refine (C_szMatrix' _ _ _ _ _ _ _ _ hcap' hmax' ⟨by omega, by omega⟩ (by exact E.out)).mono ?_; rintro e w ⟨rfl, hb⟩; replace S := S.grow hb; clear hb))
        go_ret
        exact ⟨rfl, S.below⟩
      · obtain ⟨q', hq'⟩ : ∃ q', q - m.xs.length = q' := ⟨_, rfl⟩
        have E := Lib.hid ((if_neg hneg).trans hq' : (if q - m.xs.length < 0 then (-1 : Int) else q - m.xs.length) = q')
        rw [if_neg hneg, hq'] at hz
        have HZ := Lib.hid hz
        have q3 : 0 ≤ q' := by omega
        have q4 : q' ≤ 1000000000 := by omega
        clear hneg hq' hz
        go_wp2_with (first | (refine wpList_box rfl S _ _ rfl ?_; intro g w L hM T; clear F S; (try rw [HL.out] at hM); clear HL; (try simp [Act.put, Act.eval, Value.cells, splice] at hM); have HL := Lib.hid hM; clear hM; have S := T; clear T; have F := factsAll HL S; (try simp only [factsOf, cellsFrom, and_true, true_and, Nat.reduceAdd] at F)) | (go_at_call 120; refine (C_szMatrix' _ _ _ _ _ _ _ _ hcap' hmax' ⟨by omega, by omega⟩ (by exact E.out)).mono ?_; rintro e w ⟨rfl, hb⟩; replace S := S.grow hb; clear hb))
        go_roundw
        case rel => exact ⟨j + 1, q', by omega, by go_num, rfl, q3, q4, HZ, S⟩
        case measure => simp [intOf]; omega
    · obtain rfl : j = n := by omega
      have hz := HZ.out
      rw [List.drop_of_length_le (by rw [HN.out]; omega)] at hz
      unfold szMsFrom at hz
      subst hz
      go_wp2
      go_ret
      exact ⟨rfl, S.below⟩
theorem C_szLayer (v : Value) (l : Ly) (k z : Int) (w0 : World) (h : SeesMs w0 v l.ws) (hk : 0 ≤ k ∧ k ≤ 1000000000) (hz : szMs l.ws k = z) (hz' : z < 0 → z = -1) :
    Calls Try.prog 58 #[.agg #[.int .i64 l.kind, v], .int .i64 k] w0 fun e w' => e = .returned (.int .i64 z) ∧ Below w0.heap.size w0 w' := by
  have H := Lib.hid h
  obtain ⟨A, cap, rfl, hcap, hmax, _⟩ := h
  have HZ := Lib.hid hz
  by_cases hneg : z < 0
  · obtain rfl := hz' hneg
    clear hz hz'
    obtain ⟨L, HL, S⟩ := st_start w0; have F : True := trivial
    go_enter Try.func58, Try.ntmps58
    go_wp2_with (first | (refine wpList_box rfl S _ _ rfl ?_; intro g w L hM T; clear F S; (try rw [HL.out] at hM); clear HL; (try simp [Act.put, Act.eval, Value.cells, splice] at hM); have HL := Lib.hid hM; clear hM; have S := T; clear T; have F := factsAll HL S; (try simp only [factsOf, cellsFrom, and_true, true_and, Nat.reduceAdd] at F))  | (refine wpList_store_box rfl S _ _ _ rfl 0 _ _ _ _ (atOf HL rfl) rfl _ rfl (by kernel_rfl) rfl rfl ?_; intro w L hM T; clear F S; (try rw [HL.out] at hM); clear HL; (try simp [Act.put, Act.eval, Value.cells, splice] at hM); have HL := Lib.hid hM; clear hM; have S := T; clear T; have F := factsAll HL S; (try simp only [factsOf, cellsFrom, and_true, true_and, Nat.reduceAdd] at F)) | (refine wpList_store_box rfl S _ _ _ rfl 1 _ _ _ _ (atOf HL rfl) rfl _ rfl (by kernel_rfl) rfl rfl ?_; intro w L hM T; clear F S; (try rw [HL.out] at hM); clear HL; (try simp [Act.put, Act.eval, Value.cells, splice] at hM); have HL := Lib.hid hM; clear hM; have S := T; clear T; have F := factsAll HL S; (try simp only [factsOf, cellsFrom, and_true, true_and, Nat.reduceAdd] at F)) | (refine wpList_store_box rfl S _ _ _ rfl 2 _ _ _ _ (atOf HL rfl) rfl _ rfl (by kernel_rfl) rfl rfl ?_; intro w L hM T; clear F S; (try rw [HL.out] at hM); clear HL; (try simp [Act.put, Act.eval, Value.cells, splice] at hM); have HL := Lib.hid hM; clear hM; have S := T; clear T; have F := factsAll HL S; (try simp only [factsOf, cellsFrom, and_true, true_and, Nat.reduceAdd] at F)) | (refine wpList_store_box rfl S _ _ _ rfl 3 _ _ _ _ (atOf HL rfl) rfl _ rfl (by kernel_rfl) rfl rfl ?_; intro w L hM T; clear F S; (try rw [HL.out] at hM); clear HL; (try simp [Act.put, Act.eval, Value.cells, splice] at hM); have HL := Lib.hid hM; clear hM; have S := T; clear T; have F := factsAll HL S; (try simp only [factsOf, cellsFrom, and_true, true_and, Nat.reduceAdd] at F))  | (go_at_call 92; refine (C_szMatrixS _ _ _ _ _ (H.out.at_ S) hk HZ.out).mono ?_; rintro e w ⟨rfl, hb⟩; replace S := S.grow hb; clear hb))
    go_ret
    exact ⟨rfl, S.below⟩
  · clear hz hz'
    obtain ⟨L, HL, S⟩ := st_start w0; have F : True := trivial
    go_enter Try.func58, Try.ntmps58
    go_wp2_with (first | (refine wpList_box rfl S _ _ rfl ?_; intro g w L hM T; clear F S; (try rw [HL.out] at hM); clear HL; (try simp [Act.put, Act.eval, Value.cells, splice] at hM); have HL := Lib.hid hM; clear hM; have S := T; clear T; have F := factsAll HL S; (try simp only [factsOf, cellsFrom, and_true, true_and, Nat.reduceAdd] at F))  | (refine wpList_store_box rfl S _ _ _ rfl 0 _ _ _ _ (atOf HL rfl) rfl _ rfl (by kernel_rfl) rfl rfl ?_; intro w L hM T; clear F S; (try rw [HL.out] at hM); clear HL; (try simp [Act.put, Act.eval, Value.cells, splice] at hM); have HL := Lib.hid hM; clear hM; have S := T; clear T; have F := factsAll HL S; (try simp only [factsOf, cellsFrom, and_true, true_and, Nat.reduceAdd] at F)) | (refine wpList_store_box rfl S _ _ _ rfl 1 _ _ _ _ (atOf HL rfl) rfl _ rfl (by kernel_rfl) rfl rfl ?_; intro w L hM T; clear F S; (try rw [HL.out] at hM); clear HL; (try simp [Act.put, Act.eval, Value.cells, splice] at hM); have HL := Lib.hid hM; clear hM; have S := T; clear T; have F := factsAll HL S; (try simp only [factsOf, cellsFrom, and_true, true_and, Nat.reduceAdd] at F)) | (refine wpList_store_box rfl S _ _ _ rfl 2 _ _ _ _ (atOf HL rfl) rfl _ rfl (by kernel_rfl) rfl rfl ?_; intro w L hM T; clear F S; (try rw [HL.out] at hM); clear HL; (try simp [Act.put, Act.eval, Value.cells, splice] at hM); have HL := Lib.hid hM; clear hM; have S := T; clear T; have F := factsAll HL S; (try simp only [factsOf, cellsFrom, and_true, true_and, Nat.reduceAdd] at F)) | (refine wpList_store_box rfl S _ _ _ rfl 3 _ _ _ _ (atOf HL rfl) rfl _ rfl (by kernel_rfl) rfl rfl ?_; intro w L hM T; clear F S; (try rw [HL.out] at hM); clear HL; (try simp [Act.put, Act.eval, Value.cells, splice] at hM); have HL := Lib.hid hM; clear hM; have S := T; clear T; have F := factsAll HL S; (try simp only [factsOf, cellsFrom, and_true, true_and, Nat.reduceAdd] at F))  | (go_at_call 92; refine (C_szMatrixS _ _ _ _ _ (H.out.at_ S) hk HZ.out).mono ?_; rintro e w ⟨rfl, hb⟩; replace S := S.grow hb; clear hb))
    go_ret
    exact ⟨rfl, S.below⟩
theorem szMsFrom_neg : ∀ (ms : List Mx) (k : Int), 0 ≤ k → szMsFrom ms k < 0 → szMsFrom ms k = -1
  | [], k, h, h' => by unfold szMsFrom at h'; omega
  | m :: ms, k, h, h' => by
    unfold szMsFrom at h' ⊢
    split
    · rfl
    · rename_i h0
      rw [if_neg h0] at h'
      exact szMsFrom_neg ms _ (by omega) h'
theorem szMs_neg (ms : List Mx) (k : Int) (h : szMs ms k < 0) : szMs ms k = -1 := by
  unfold szMs at h ⊢
  split
  · rfl
  · rename_i h0
    rw [if_neg h0] at h
    exact szMsFrom_neg ms _ (by omega) h
theorem C_szLayerS (v : Value) (ls : List Ly) (k z : Int) (w0 : World) (h : SeesLs w0 v ls) (hk : 0 ≤ k ∧ k ≤ 1000000000) (hz : szLs ls k = z) :
    Calls Try.prog 25 #[v, .int .i64 k] w0 fun e w' => e = .returned (.int .i64 z) ∧ Below w0.heap.size w0 w' := by
  obtain ⟨A, cap, rfl, hcap, hmax, hA⟩ := h
  obtain ⟨n, hn⟩ : ∃ n, ls.length = n := ⟨_, rfl⟩
  obtain ⟨k1, k2⟩ := hk
  unfold szLs at hz
  rw [hn] at hcap hA hz ⊢
  unfold maxLen at hmax
  by_cases hs : k - n < 0
  · rw [if_pos hs] at hz
    subst hz
    clear hA hn
    obtain ⟨L, HL, S⟩ := st_start w0; have F : True := trivial
    go_enter Try.func25, Try.ntmps25
    go_wp2_with (first | (refine wpList_box rfl S _ _ rfl ?_; intro g w L hM T; clear F S; (try rw [HL.out] at hM); clear HL; (try simp [Act.put, Act.eval, Value.cells, splice] at hM); have HL := Lib.hid hM; clear hM; have S := T; clear T; have F := factsAll HL S; (try simp only [factsOf, cellsFrom, and_true, true_and, Nat.reduceAdd] at F))  | (refine wpList_store_box rfl S _ _ _ rfl 0 _ _ _ _ (atOf HL rfl) rfl _ rfl (by kernel_rfl) rfl rfl ?_; intro w L hM T; clear F S; (try rw [HL.out] at hM); clear HL; (try simp [Act.put, Act.eval, Value.cells, splice] at hM); have HL := Lib.hid hM; clear hM; have S := T; clear T; have F := factsAll HL S; (try simp only [factsOf, cellsFrom, and_true, true_and, Nat.reduceAdd] at F)) | (refine wpList_store_box rfl S _ _ _ rfl 1 _ _ _ _ (atOf HL rfl) rfl _ rfl (by kernel_rfl) rfl rfl ?_; intro w L hM T; clear F S; (try rw [HL.out] at hM); clear HL; (try simp [Act.put, Act.eval, Value.cells, splice] at hM); have HL := Lib.hid hM; clear hM; have S := T; clear T; have F := factsAll HL S; (try simp only [factsOf, cellsFrom, and_true, true_and, Nat.reduceAdd] at F)) | (refine wpList_store_box rfl S _ _ _ rfl 2 _ _ _ _ (atOf HL rfl) rfl _ rfl (by kernel_rfl) rfl rfl ?_; intro w L hM T; clear F S; (try rw [HL.out] at hM); clear HL; (try simp [Act.put, Act.eval, Value.cells, splice] at hM); have HL := Lib.hid hM; clear hM; have S := T; clear T; have F := factsAll HL S; (try simp only [factsOf, cellsFrom, and_true, true_and, Nat.reduceAdd] at F)) | (refine wpList_store_box rfl S _ _ _ rfl 3 _ _ _ _ (atOf HL rfl) rfl _ rfl (by kernel_rfl) rfl rfl ?_; intro w L hM T; clear F S; (try rw [HL.out] at hM); clear HL; (try simp [Act.put, Act.eval, Value.cells, splice] at hM); have HL := Lib.hid hM; clear hM; have S := T; clear T; have F := factsAll HL S; (try simp only [factsOf, cellsFrom, and_true, true_and, Nat.reduceAdd] at F))  )
    go_ret
    exact ⟨rfl, S.below⟩
  rw [if_neg hs] at hz
  have HA := Lib.hid hA
  have HN := Lib.hid hn
  have HZ := Lib.hid hz
  clear hA hn hz
  obtain ⟨L, HL, S⟩ := st_start w0; have F : True := trivial
  go_enter Try.func25, Try.ntmps25
  go_wp2_with (first | (refine wpList_box rfl S _ _ rfl ?_; intro g w L hM T; clear F S; (try rw [HL.out] at hM); clear HL; (try simp [Act.put, Act.eval, Value.cells, splice] at hM); have HL := Lib.hid hM; clear hM; have S := T; clear T; have F := factsAll HL S; (try simp only [factsOf, cellsFrom, and_true, true_and, Nat.reduceAdd] at F))  | (refine wpList_store_box rfl S _ _ _ rfl 0 _ _ _ _ (atOf HL rfl) rfl _ rfl (by kernel_rfl) rfl rfl ?_; intro w L hM T; clear F S; (try rw [HL.out] at hM); clear HL; (try simp [Act.put, Act.eval, Value.cells, splice] at hM); have HL := Lib.hid hM; clear hM; have S := T; clear T; have F := factsAll HL S; (try simp only [factsOf, cellsFrom, and_true, true_and, Nat.reduceAdd] at F)) | (refine wpList_store_box rfl S _ _ _ rfl 1 _ _ _ _ (atOf HL rfl) rfl _ rfl (by kernel_rfl) rfl rfl ?_; intro w L hM T; clear F S; (try rw [HL.out] at hM); clear HL; (try simp [Act.put, Act.eval, Value.cells, splice] at hM); have HL := Lib.hid hM; clear hM; have S := T; clear T; have F := factsAll HL S; (try simp only [factsOf, cellsFrom, and_true, true_and, Nat.reduceAdd] at F)) | (refine wpList_store_box rfl S _ _ _ rfl 2 _ _ _ _ (atOf HL rfl) rfl _ rfl (by kernel_rfl) rfl rfl ?_; intro w L hM T; clear F S; (try rw [HL.out] at hM); clear HL; (try simp [Act.put, Act.eval, Value.cells, splice] at hM); have HL := Lib.hid hM; clear hM; have S := T; clear T; have F := factsAll HL S; (try simp only [factsOf, cellsFrom, and_true, true_and, Nat.reduceAdd] at F)) | (refine wpList_store_box rfl S _ _ _ rfl 3 _ _ _ _ (atOf HL rfl) rfl _ rfl (by kernel_rfl) rfl rfl ?_; intro w L hM T; clear F S; (try rw [HL.out] at hM); clear HL; (try simp [Act.put, Act.eval, Value.cells, splice] at hM); have HL := Lib.hid hM; clear hM; have S := T; clear T; have F := factsAll HL S; (try simp only [factsOf, cellsFrom, and_true, true_and, Nat.reduceAdd] at F))  )
  go_loopw [5, 1] (fun i l wr => ∃ (j : Nat) (q : Int), j ≤ n ∧ i = .int .i64 j ∧ l = .int .i64 q ∧ 0 ≤ q ∧ q ≤ 1000000000 ∧ Hid (szLsFrom (ls.drop j) q = z) ∧ St w0 wr L) (fun i _ _ => n - (intOf i).toNat)
  case atStart => exact ⟨0, k - n, Nat.zero_le _, rfl, rfl, by omega, by omega, HZ, S⟩
  case round =>
    clear S HZ
    obtain ⟨j, q, hj, rfl, rfl, q1, q2, HZ, S⟩ := hrel
    by_cases hlt : j < n
    · obtain ⟨b, off, rfl, hb, hc⟩ := HA.out (by omega)
      obtain ⟨m, hm⟩ := some_at HN.out hlt
      obtain ⟨u, c1, c2, hu⟩ := hc j m hm
      have HU := Lib.hid hu
      obtain ⟨A', cap', rfl, hcap', hmax', _⟩ := hu
      have hz := HZ.out
      rw [drop_at hm] at hz
      have f1 := fun w' (S' : St w0 w' L) => (S'.below.cell (p := ⟨b, off + j * 2, none⟩) hb).trans c1
      have f2 := fun w' (S' : St w0 w' L) => (S'.below.cell (p := ⟨b, off + j * 2 + 1, none⟩) hb).trans c2
      clear hc c1 c2 HZ hm
      unfold szLsFrom at hz
      have E0 := szMs_neg m.ws q
      have E1 := szMs_le m.ws q q1
      obtain ⟨q', hq'⟩ : ∃ q', szMs m.ws q = q' := ⟨_, rfl⟩
      rw [hq'] at hz E0 E1
      have HQ := Lib.hid hq'
      have HE := Lib.hid E0
      clear hq' E0
      by_cases hneg : q' < 0
      · rw [if_pos hneg] at hz
        subst hz
        obtain rfl := HE.out hneg
        go_wp2_with (first | (refine wpList_box rfl S _ _ rfl ?_; intro g w L hM T; clear F S; (try rw [HL.out] at hM); clear HL; (try simp [Act.put, Act.eval, Value.cells, splice] at hM); have HL := Lib.hid hM; clear hM; have S := T; clear T; have F := factsAll HL S; (try simp only [factsOf, cellsFrom, and_true, true_and, Nat.reduceAdd] at F)) | (go_at_call 58; refine (C_szLayer _ m _ _ _ (HU.out.at_ S) ⟨by omega, by omega⟩ HQ.out HE.out).mono ?_; rintro e w ⟨rfl, hb⟩; replace S := S.grow hb; clear hb))
        go_ret
        exact ⟨rfl, S.below⟩
      · rw [if_neg hneg] at hz
        have HZ := Lib.hid hz
        have q3 : 0 ≤ q' := by omega
        have q4 : q' ≤ 1000000000 := by omega
        clear hz
        go_wp2_with (first | (refine wpList_box rfl S _ _ rfl ?_; intro g w L hM T; clear F S; (try rw [HL.out] at hM); clear HL; (try simp [Act.put, Act.eval, Value.cells, splice] at hM); have HL := Lib.hid hM; clear hM; have S := T; clear T; have F := factsAll HL S; (try simp only [factsOf, cellsFrom, and_true, true_and, Nat.reduceAdd] at F)) | (go_at_call 58; refine (C_szLayer _ m _ _ _ (HU.out.at_ S) ⟨by omega, by omega⟩ HQ.out HE.out).mono ?_; rintro e w ⟨rfl, hb⟩; replace S := S.grow hb; clear hb))
        go_roundw
        case rel => exact ⟨j + 1, q', by omega, by go_num, rfl, q3, q4, HZ, S⟩
        case measure => simp [intOf]; omega
    · obtain rfl : j = n := by omega
      have hz := HZ.out
      rw [List.drop_of_length_le (by rw [HN.out]; omega)] at hz
      unfold szLsFrom at hz
      subst hz
      go_wp2
      go_ret
      exact ⟨rfl, S.below⟩
theorem C_toMatrixS (v : Value) (ms : List Mx) (w0 : World) (h : SeesMs w0 v ms) (hn0 : ms.length ≤ 1048576) (hx : ∀ m ∈ ms, m.xs.length ≤ 1048576) :
    Calls Try.prog 93 #[v] w0 fun e w => ∃ u ps, e = .returned u ∧ ps.map Prod.snd = ms ∧ St w0 w (entsM u ps) := by
  obtain ⟨A, cap, rfl, hcap, hmax, hA⟩ := h
  obtain ⟨n, hn⟩ : ∃ n, ms.length = n := ⟨_, rfl⟩
  rw [hn] at hcap hA hn0 ⊢
  unfold maxLen at hmax
  have HA := Lib.hid hA
  have HN := Lib.hid hn
  have HX := Lib.hid hx
  clear hA hn hx
  have CT := fun r c xs v w h hn => C_toMatrix r c xs v w h hn
  unfold MakesMx at CT
  obtain ⟨L, HL, S⟩ := st_start w0; have F : True := trivial
  go_enter Try.func93, Try.ntmps93
  go_wp2_with (at_make; refine wpList_make rfl S _ _ _ rfl 55 _ 3 40 Try.underlying31 infoMx _ n rfl rfl rfl (by omega) (by simp only [maxLen]; omega) ?_; intro g w L hM T; clear F S; (try rw [HL.out] at hM); clear HL; (try simp [Act.put, Act.eval, Value.cells, splice] at hM); have HL := Lib.hid hM; clear hM; have S := T; clear T; have F := factsAll HL S; (try simp only [factsOf, cellsFrom, and_true, true_and, Nat.reduceAdd] at F))
  obtain ⟨Z, hZ⟩ : ∃ Z, Z = (madeCells #[.int .i64 0, .int .i64 0, .slice none 0 0] (n * 3)).toList := ⟨_, rfl⟩
  rw [← hZ] at HL
  have hZl : Z.length = n * 3 := by rw [hZ]; simp [madeCells]
  have HZ := Lib.hid hZl
  clear hZ hZl
  go_loopw [4] (fun i wr => ∃ (k : Nat) (ps : MsO) (L : List Ent), k ≤ n ∧ i = .int .i64 k ∧ Hid (ps.map Prod.snd = ms.take k) ∧ Hid (L = .row 55 3 (.slice (some ⟨g, 0, none⟩) n n) n (cellsM ps ++ Z.drop (k * 3)) :: rowsM ps) ∧ St w0 wr L) (fun i _ => n - (intOf i).toNat)
  case atStart => exact ⟨0, [], L, Nat.zero_le _, rfl, Lib.hid rfl, HL, S⟩
  case round =>
    clear F HL S
    obtain ⟨k, ps, L, hk, rfl, HP, HL, S⟩ := hrel
    have F : True := trivial
    have hpl : ps.length = k := by
      have := congrArg List.length HP.out
      rw [List.length_map, List.length_take, HN.out] at this
      omega
    by_cases hlt : k < n
    · obtain ⟨b, off, rfl, hb, hc⟩ := HA.out (by omega)
      obtain ⟨m, hm⟩ := some_at HN.out hlt
      obtain ⟨u, c1, c2, c3, hu⟩ := hc k m hm
      have hmx := HX.out m (List.mem_of_getElem? hm)
      have hp' := take_at hm
      rw [← HP.out] at hp'
      have HP' := Lib.hid hp'
      have f1 := fun w' (S' : St w0 w' L) => (S'.below.cell (p := ⟨b, off + k * 3, none⟩) hb).trans c1
      have f2 := fun w' (S' : St w0 w' L) => (S'.below.cell (p := ⟨b, off + k * 3 + 1, none⟩) hb).trans c2
      have f3 := fun w' (S' : St w0 w' L) => (S'.below.cell (p := ⟨b, off + k * 3 + 2, none⟩) hb).trans c3
      have HU := Lib.hid hu
      obtain ⟨_, A', cap', rfl, hcap', hmax', _⟩ := hu
      have hcl := cellsM_len ps
      rw [hpl] at hcl
      have HC := Lib.hid hcl
      have hk3 : k * 3 + 3 ≤ n * 3 := by omega
      clear hc c1 c2 c3 hp' hcl
      obtain ⟨r, c, xs⟩ := m
      dsimp only at *
      go_wp2_with (first | (refine wpList_box rfl S _ _ rfl ?_; intro g w L hM T; clear F S; (try rw [HL.out] at hM); clear HL; (try simp [Act.put, Act.eval, Value.cells, splice] at hM); have HL := Lib.hid hM; clear hM; have S := T; clear T; have F := factsAll HL S; (try simp only [factsOf, cellsFrom, and_true, true_and, Nat.reduceAdd] at F)) | (go_at_call 121; refine (CT r c xs _ _ (HU.out.at_ S) hmx).mono ?_; rintro e w ⟨u, rfl, T0⟩; obtain ⟨L, hM, T⟩ := st_name (S.call T0); clear T0; clear F S; (try rw [HL.out] at hM); clear HL; (try simp [Act.put, Act.eval, Value.cells, splice] at hM); have HL := Lib.hid hM; clear hM; have S := T; clear T; have F := factsAll HL S; (try simp only [factsOf, cellsFrom, and_true, true_and, Nat.reduceAdd] at F); obtain ⟨A', cap', rfl, hcap', hmax'⟩ := S.sliceOf (atOf HL (p := 0) rfl)) | (refine wpList_store_rowS rfl S _ _ _ rfl 1 _ _ _ _ _ _ _ (atOf HL rfl) rfl ([.int .i64 r, .int .i64 c, .slice A' xs.length cap']) rfl (by kernel_rfl) rfl (show _ + 3 ≤ _ from by omega) ?_; intro w L hM T; clear F S; (try rw [HL.out] at hM); clear HL; (try simp [Act.put, Act.eval, Value.cells] at hM); have HL := Lib.hid hM; clear hM; have S := T; clear T; have F := factsAll HL S; (try simp only [factsOf, cellsFrom, and_true, true_and, Nat.reduceAdd] at F)))
      go_roundw
      case rel =>
        rw [HL.out] at S
        have e : splice (cellsM ps ++ Z.drop (k * 3)) (k * 3) [.int .i64 r, .int .i64 c, .slice A' xs.length cap'] = cellsM (ps ++ [(.slice A' xs.length cap', ⟨r, c, xs⟩)]) ++ Z.drop ((k + 1) * 3) := by
          rw [splice_app _ _ _ _ HC.out, List.drop_drop, cellsM_add, Nat.succ_mul]; rfl
        rw [e] at S
        have T := S.perm ((List.Perm.swap _ _ _).trans (List.Perm.cons _ (List.perm_append_singleton _ _).symm))
        exact ⟨k + 1, ps ++ [(.slice A' xs.length cap', ⟨r, c, xs⟩)], _, by omega, by go_num, Lib.hid (by rw [List.map_append, HP'.out]; rfl), Lib.hid (by rw [rowsM_add]; rfl), T⟩
      case measure => simp [intOf]; omega
    · obtain rfl : k = n := by omega
      go_wp2
      go_ret
      rw [HL.out, List.drop_of_length_le (Nat.le_of_eq HZ.out), List.append_nil] at S
      have hp := HP.out
      rw [List.take_of_length_le (Nat.le_of_eq HN.out)] at hp
      refine ⟨_, ps, rfl, hp, ?_⟩
      unfold entsM
      rw [hpl]
      exact S
theorem C_toLayer (k : Int) (v : Value) (ms : List Mx) (w0 : World) (h : SeesMs w0 v ms) (hn : ms.length ≤ 1048576) (hx : ∀ m ∈ ms, m.xs.length ≤ 1048576) :
    Calls Try.prog 59 #[.agg #[.int .i64 k, v]] w0 fun e w => ∃ u ps, e = .returned (.agg #[.int .i64 k, u]) ∧ ps.map Prod.snd = ms ∧ St w0 w (entsM u ps) := by
  have H := Lib.hid h
  have HX := Lib.hid hx
  obtain ⟨A, cap, rfl, hcap, hmax, _⟩ := h
  clear hx
  obtain ⟨L, HL, S⟩ := st_start w0; have F : True := trivial
  go_enter Try.func59, Try.ntmps59
  go_wp2_with (first | (refine wpList_box rfl S _ _ rfl ?_; intro g w L hM T; clear F S; (try rw [HL.out] at hM); clear HL; (try simp [Act.put, Act.eval, Value.cells, splice] at hM); have HL := Lib.hid hM; clear hM; have S := T; clear T; have F := factsAll HL S; (try simp only [factsOf, cellsFrom, and_true, true_and, Nat.reduceAdd] at F)) | (refine wpList_alloc rfl S 33 _ rfl zLy ?_; intro g w L hM T; clear F S; (try rw [HL.out] at hM); clear HL; (try simp [Act.put, Act.eval, Value.cells, splice] at hM); have HL := Lib.hid hM; clear hM; have S := T; clear T; have F := factsAll HL S; (try simp only [factsOf, cellsFrom, and_true, true_and, Nat.reduceAdd] at F)) | (refine wpList_store_box rfl S _ _ _ rfl 0 _ _ _ _ (atOf HL rfl) rfl _ rfl (by kernel_rfl) rfl rfl ?_; intro w L hM T; clear F S; (try rw [HL.out] at hM); clear HL; (try simp [Act.put, Act.eval, Value.cells, splice] at hM); have HL := Lib.hid hM; clear hM; have S := T; clear T; have F := factsAll HL S; (try simp only [factsOf, cellsFrom, and_true, true_and, Nat.reduceAdd] at F)) | (refine wpList_store_box rfl S _ _ _ rfl 1 _ _ _ _ (atOf HL rfl) rfl _ rfl (by kernel_rfl) rfl rfl ?_; intro w L hM T; clear F S; (try rw [HL.out] at hM); clear HL; (try simp [Act.put, Act.eval, Value.cells, splice] at hM); have HL := Lib.hid hM; clear hM; have S := T; clear T; have F := factsAll HL S; (try simp only [factsOf, cellsFrom, and_true, true_and, Nat.reduceAdd] at F)) | (refine wpList_store_box rfl S _ _ _ rfl 2 _ _ _ _ (atOf HL rfl) rfl _ rfl (by kernel_rfl) rfl rfl ?_; intro w L hM T; clear F S; (try rw [HL.out] at hM); clear HL; (try simp [Act.put, Act.eval, Value.cells, splice] at hM); have HL := Lib.hid hM; clear hM; have S := T; clear T; have F := factsAll HL S; (try simp only [factsOf, cellsFrom, and_true, true_and, Nat.reduceAdd] at F)) | (refine wpList_store_box rfl S _ _ _ rfl 3 _ _ _ _ (atOf HL rfl) rfl _ rfl (by kernel_rfl) rfl rfl ?_; intro w L hM T; clear F S; (try rw [HL.out] at hM); clear HL; (try simp [Act.put, Act.eval, Value.cells, splice] at hM); have HL := Lib.hid hM; clear hM; have S := T; clear T; have F := factsAll HL S; (try simp only [factsOf, cellsFrom, and_true, true_and, Nat.reduceAdd] at F))  | (go_at_call 93; refine (C_toMatrixS _ ms _ (H.out.at_ S) hn HX.out).mono ?_; rintro e w ⟨u, ps, rfl, hps, T0⟩; have HPS := Lib.hid hps; clear hps; obtain ⟨Au, cu, rfl, hcu, hmu⟩ := T0.sliceOf (p := 0) (show At _ 0 _ from rfl); obtain ⟨L, hM, T⟩ := st_name ((S.call T0).perm List.perm_append_comm); clear T0; clear F S; (try rw [HL.out] at hM); clear HL; (try simp [Act.put, Act.eval, Value.cells, splice] at hM); have HL := Lib.hid hM; clear hM; have S := T; clear T; have F := factsAll HL S; (try simp only [factsOf, cellsFrom, and_true, true_and, Nat.reduceAdd] at F)))
  ((try simp only [Exit.inBlock, Exit.then]); refine ret1 rfl (resCell S HL 1 rfl rfl (by kernel_rfl)) rfl ?_)
  exact ⟨_, ps, rfl, HPS.out, (by rw [HL.out] at S; exact S.sub (by repeat (first | exact .refl _ | exact List.nil_sublist _ | apply List.Sublist.cons_cons | apply List.Sublist.cons)))⟩
theorem C_toLayerS (v : Value) (ls : List Ly) (w0 : World) (h : SeesLs w0 v ls) (hn0 : ls.length ≤ 1048576) (hx : ∀ l ∈ ls, LySmall 1048576 l) :
    Calls Try.prog 26 #[v] w0 fun e w => ∃ u qs, e = .returned u ∧ qs.map lyO = ls ∧ St w0 w (entsL u qs) := by
  obtain ⟨A, cap, rfl, hcap, hmax, hA⟩ := h
  obtain ⟨n, hn⟩ : ∃ n, ls.length = n := ⟨_, rfl⟩
  rw [hn] at hcap hA hn0 ⊢
  unfold maxLen at hmax
  have HA := Lib.hid hA
  have HN := Lib.hid hn
  have HX := Lib.hid hx
  clear hA hn hx
  obtain ⟨L, HL, S⟩ := st_start w0; have F : True := trivial
  go_enter Try.func26, Try.ntmps26
  go_wp2_with (at_make; refine wpList_make rfl S _ _ _ rfl 33 _ 2 32 Try.underlying25 infoLy _ n rfl rfl rfl (by omega) (by simp only [maxLen]; omega) ?_; intro g w L hM T; clear F S; (try rw [HL.out] at hM); clear HL; (try simp [Act.put, Act.eval, Value.cells, splice] at hM); have HL := Lib.hid hM; clear hM; have S := T; clear T; have F := factsAll HL S; (try simp only [factsOf, cellsFrom, and_true, true_and, Nat.reduceAdd] at F))
  obtain ⟨Z, hZ⟩ : ∃ Z, Z = (madeCells #[.int .i64 0, .slice none 0 0] (n * 2)).toList := ⟨_, rfl⟩
  rw [← hZ] at HL
  have hZl : Z.length = n * 2 := by rw [hZ]; simp [madeCells]
  have HZ := Lib.hid hZl
  clear hZ hZl
  go_loopw [4] (fun i wr => ∃ (k : Nat) (qs : LsO) (L : List Ent), k ≤ n ∧ i = .int .i64 k ∧ Hid (qs.map lyO = ls.take k) ∧ Hid (L = .row 33 2 (.slice (some ⟨g, 0, none⟩) n n) n (cellsL qs ++ Z.drop (k * 2)) :: rowsL qs) ∧ St w0 wr L) (fun i _ => n - (intOf i).toNat)
  case atStart => exact ⟨0, [], L, Nat.zero_le _, rfl, Lib.hid rfl, HL, S⟩
  case round =>
    clear F HL S
    obtain ⟨k, qs, L, hk, rfl, HP, HL, S⟩ := hrel
    have F : True := trivial
    have hpl : qs.length = k := by
      have := congrArg List.length HP.out
      rw [List.length_map, List.length_take, HN.out] at this
      omega
    by_cases hlt : k < n
    · obtain ⟨b, off, rfl, hb, hc⟩ := HA.out (by omega)
      obtain ⟨l, hm⟩ := some_at HN.out hlt
      obtain ⟨kind, ms⟩ := l
      obtain ⟨x, c1, c2, hu⟩ := hc k _ hm
      obtain ⟨hm1, hm2⟩ := HX.out _ (List.mem_of_getElem? hm)
      have hp' := take_at hm
      rw [← HP.out] at hp'
      have HP' := Lib.hid hp'
      dsimp only at c1 c2 hu hm1 hm2
      have f1 := fun w' (S' : St w0 w' L) => (S'.below.cell (p := ⟨b, off + k * 2, none⟩) hb).trans c1
      have f2 := fun w' (S' : St w0 w' L) => (S'.below.cell (p := ⟨b, off + k * 2 + 1, none⟩) hb).trans c2
      have HU := Lib.hid hu
      obtain ⟨A', cap', rfl, hcap', hmax', _⟩ := hu
      have hcl := cellsL_len qs
      rw [hpl] at hcl
      have HC := Lib.hid hcl
      have HM2 := Lib.hid hm2
      have hk3 : k * 2 + 2 ≤ n * 2 := by omega
      clear hc c1 c2 hp' hcl hm hm2
      go_wp2_with (first | (refine wpList_box rfl S _ _ rfl ?_; intro g w L hM T; clear F S; (try rw [HL.out] at hM); clear HL; (try simp [Act.put, Act.eval, Value.cells, splice] at hM); have HL := Lib.hid hM; clear hM; have S := T; clear T; have F := factsAll HL S; (try simp only [factsOf, cellsFrom, and_true, true_and, Nat.reduceAdd] at F)) | (go_at_call 59; refine (C_toLayer kind _ ms _ (HU.out.at_ S) hm1 HM2.out).mono ?_; rintro e w ⟨u, ps, rfl, hps, T0⟩; have HPS := Lib.hid hps; clear hps; obtain ⟨Au, cu, rfl, hcu, hmu⟩ := T0.sliceOf (p := 0) (show At _ 0 _ from rfl); obtain ⟨L, hM, T⟩ := st_name ((S.call T0).perm List.perm_append_comm); clear T0; clear F S; (try rw [HL.out] at hM); clear HL; (try simp [Act.put, Act.eval, Value.cells, splice] at hM); have HL := Lib.hid hM; clear hM; have S := T; clear T; have F := factsAll HL S; (try simp only [factsOf, cellsFrom, and_true, true_and, Nat.reduceAdd] at F)) | (refine wpList_store_rowS rfl S _ _ _ rfl 0 _ _ _ _ _ _ _ (atOf HL rfl) rfl ([.int .i64 kind, .slice Au ps.length cu]) rfl (by kernel_rfl) rfl (show _ + 2 ≤ _ from by omega) ?_; intro w L hM T; clear F S; (try rw [HL.out] at hM); clear HL; (try simp [Act.put, Act.eval, Value.cells] at hM); have HL := Lib.hid hM; clear hM; have S := T; clear T; have F := factsAll HL S; (try simp only [factsOf, cellsFrom, and_true, true_and, Nat.reduceAdd] at F)))
      go_roundw
      case rel =>
        rw [HL.out] at S
        have e : splice (cellsL qs ++ Z.drop (k * 2)) (k * 2) [.int .i64 kind, .slice Au ps.length cu] = cellsL (qs ++ [(.slice Au ps.length cu, kind, ps)]) ++ Z.drop ((k + 1) * 2) := by
          rw [splice_app _ _ _ _ HC.out, List.drop_drop, cellsL_add, Nat.succ_mul]; rfl
        rw [e] at S
        exact ⟨k + 1, qs ++ [(.slice Au ps.length cu, kind, ps)], _, by omega, by go_num, Lib.hid (by rw [List.map_append, HP'.out]; simp [lyO, HPS.out]), Lib.hid (by rw [rowsL_add]; simp [rowsL, rowL]), S⟩
      case measure => simp [intOf]; omega
    · obtain rfl : k = n := by omega
      go_wp2
      go_ret
      rw [HL.out, List.drop_of_length_le (Nat.le_of_eq HZ.out), List.append_nil] at S
      have hp := HP.out
      rw [List.take_of_length_le (Nat.le_of_eq HN.out)] at hp
      refine ⟨_, qs, rfl, hp, ?_⟩
      unfold entsL
      rw [hpl]
      exact S
theorem C_eqMatrixS (u v : Value) (ms : List Mx) (w0 : World) (hu : SeesMs w0 u ms) (hv : SeesMs w0 v ms) :
    Calls Try.prog 88 #[u, v] w0 fun e w' => e = .returned (.bool true) ∧ Below w0.heap.size w0 w' := by
  obtain ⟨A, cap, rfl, hcap, hmax, hA⟩ := hu
  obtain ⟨B, cap', rfl, hcap', hmax', hB⟩ := hv
  obtain ⟨n, hn⟩ : ∃ n, ms.length = n := ⟨_, rfl⟩
  rw [hn] at hcap hcap' hA hB ⊢
  have HN := Lib.hid hn
  have HA := Lib.hid hA
  have HB := Lib.hid hB
  clear hA hB hn
  unfold maxLen at hmax hmax'
  obtain ⟨L, HL, S⟩ := st_start w0; have F : True := trivial
  go_enter Try.func88, Try.ntmps88
  go_wp2
  go_loopw [5] (fun i wr => ∃ (k : Nat), k ≤ n ∧ i = .int .i64 k ∧ St w0 wr L) (fun i _ => n - (intOf i).toNat)
  case atStart => exact ⟨0, Nat.zero_le _, rfl, S⟩
  case round =>
    clear S
    obtain ⟨k, hk, rfl, S⟩ := hrel
    by_cases hlt : k < n
    · obtain ⟨b, off, rfl, hb, hc⟩ := HA.out (by omega)
      obtain ⟨b', off', rfl, hb', hc'⟩ := HB.out (by omega)
      obtain ⟨m, hm⟩ := some_at HN.out hlt
      obtain ⟨r, c, xs⟩ := m
      obtain ⟨x, c1, c2, c3, hx⟩ := hc k _ hm
      obtain ⟨y, d1, d2, d3, hy⟩ := hc' k _ hm
      dsimp only at c1 c2 c3 hx d1 d2 d3 hy
      have f1 := fun w' (S' : St w0 w' L) => (S'.below.cell (p := ⟨b, off + k * 3, none⟩) hb).trans c1
      have f2 := fun w' (S' : St w0 w' L) => (S'.below.cell (p := ⟨b, off + k * 3 + 1, none⟩) hb).trans c2
      have f3 := fun w' (S' : St w0 w' L) => (S'.below.cell (p := ⟨b, off + k * 3 + 2, none⟩) hb).trans c3
      have g1 := fun w' (S' : St w0 w' L) => (S'.below.cell (p := ⟨b', off' + k * 3, none⟩) hb').trans d1
      have g2 := fun w' (S' : St w0 w' L) => (S'.below.cell (p := ⟨b', off' + k * 3 + 1, none⟩) hb').trans d2
      have g3 := fun w' (S' : St w0 w' L) => (S'.below.cell (p := ⟨b', off' + k * 3 + 2, none⟩) hb').trans d3
      have HX := Lib.hid hx
      have HY := Lib.hid hy
      obtain ⟨_, Ax, capx, rfl, hcx, hmx, _⟩ := hx
      obtain ⟨_, Ay, capy, rfl, hcy, hmy, _⟩ := hy
      clear hc hc' c1 c2 c3 d1 d2 d3 hm
      go_wp2_with fail
      have HL0 := HL; have F0 := F; refine wp_region_tree (S := fun w' => St w0 w' L) (.calm 0 (.calm 1 (.calm 2 (.calm 3 (.calm 4 (.calm 5 (.calm 6 (.calm 7 (.act 8 (.calm 9 .fin) .stop))))))))) (by kernel_rfl) (by kernel_rfl) (by kernel_rfl) (by intro c a d v w h; cases d <;> exact h) ?_; replace S := S.drew
      repeat (first | (first | (refine tree_calm (v := ?_) ?_ rfl (by decide +kernel) rfl ?_ ?_; rotate_left; (focus (first | exact S | (refine S.sub (subL HL0 HL ?_); (repeat (first | exact List.Sublist.refl _ | apply List.Sublist.cons)); done))); (focus (intro w' hS'; (try dsimp only at hS'); go_simp; try rfl)); (try simp only [Act.put, List.setIfInBounds_toArray, List.set_cons_zero, List.set_cons_succ])) | (refine tree_any (v := ?_) ?_ rfl rfl ?_ ?_; rotate_left; (focus (first | exact S | (refine S.sub (subL HL0 HL ?_); (repeat (first | exact List.Sublist.refl _ | apply List.Sublist.cons)); done))); (focus (intro w'; go_simp; try rfl)); (try simp only [Act.put, List.setIfInBounds_toArray, List.set_cons_zero, List.set_cons_succ]))) | (refine tree_skip ?_ rfl rfl ?_; (focus (first | exact S | (refine S.sub (subL HL0 HL ?_); (repeat (first | exact List.Sublist.refl _ | apply List.Sublist.cons)); done))); (try simp only [Act.put, List.setIfInBounds_toArray, List.set_cons_zero, List.set_cons_succ])) | (refine tree_act rfl rfl ?_ tree_stop; intro K hK; go_wp2_with (first | (go_at_call 118; refine (C_eqMatrix r c xs _ _ _ (HX.out.at_ S) (HY.out.at_ S)).mono ?_; rintro e w ⟨rfl, hb⟩; replace S := S.grow hb; clear hb)); (refine hK.out _ _ ?_ ?_; (focus (first | exact fun _ => S | (intro _; refine S.sub (subL HL0 HL ?_); (repeat (first | exact List.Sublist.refl _ | apply List.Sublist.cons)); done) | (refine sink_no ?_; kernel_rfl))); clear hK K; (try simp only [Act.put, List.setIfInBounds_toArray, List.set_cons_zero, List.set_cons_succ]))))
      refine tree_fin ?_
      go_wp2
      go_roundw
      case rel => exact ⟨k + 1, by omega, by go_num, S⟩
      case measure => simp [intOf]; omega
    · obtain rfl : k = n := by omega
      go_wp2
      go_ret
      exact ⟨rfl, S.below⟩
theorem C_eqLayer (k : Int) (ms : List Mx) (u v : Value) (w0 : World) (hu : SeesMs w0 u ms) (hv : SeesMs w0 v ms) :
    Calls Try.prog 53 #[.agg #[.int .i64 k, u], .agg #[.int .i64 k, v]] w0 fun e w' => e = .returned (.bool true) ∧ Below w0.heap.size w0 w' := by
  have HU := Lib.hid hu
  have HV := Lib.hid hv
  obtain ⟨A, cap, rfl, hcap, hmax, _⟩ := hu
  obtain ⟨B, cap', rfl, hcap', hmax', _⟩ := hv
  obtain ⟨L, HL, S⟩ := st_start w0; have F : True := trivial
  go_enter Try.func53, Try.ntmps53
  go_wp2_with (first | (refine wpList_box rfl S _ _ rfl ?_; intro g w L hM T; clear F S; (try rw [HL.out] at hM); clear HL; (try simp [Act.put, Act.eval, Value.cells, splice] at hM); have HL := Lib.hid hM; clear hM; have S := T; clear T; have F := factsAll HL S; (try simp only [factsOf, cellsFrom, and_true, true_and, Nat.reduceAdd] at F))  | (refine wpList_store_box rfl S _ _ _ rfl 0 _ _ _ _ (atOf HL rfl) rfl _ rfl (by kernel_rfl) rfl rfl ?_; intro w L hM T; clear F S; (try rw [HL.out] at hM); clear HL; (try simp [Act.put, Act.eval, Value.cells, splice] at hM); have HL := Lib.hid hM; clear hM; have S := T; clear T; have F := factsAll HL S; (try simp only [factsOf, cellsFrom, and_true, true_and, Nat.reduceAdd] at F)) | (refine wpList_store_box rfl S _ _ _ rfl 1 _ _ _ _ (atOf HL rfl) rfl _ rfl (by kernel_rfl) rfl rfl ?_; intro w L hM T; clear F S; (try rw [HL.out] at hM); clear HL; (try simp [Act.put, Act.eval, Value.cells, splice] at hM); have HL := Lib.hid hM; clear hM; have S := T; clear T; have F := factsAll HL S; (try simp only [factsOf, cellsFrom, and_true, true_and, Nat.reduceAdd] at F)) | (refine wpList_store_box rfl S _ _ _ rfl 2 _ _ _ _ (atOf HL rfl) rfl _ rfl (by kernel_rfl) rfl rfl ?_; intro w L hM T; clear F S; (try rw [HL.out] at hM); clear HL; (try simp [Act.put, Act.eval, Value.cells, splice] at hM); have HL := Lib.hid hM; clear hM; have S := T; clear T; have F := factsAll HL S; (try simp only [factsOf, cellsFrom, and_true, true_and, Nat.reduceAdd] at F)) | (refine wpList_store_box rfl S _ _ _ rfl 3 _ _ _ _ (atOf HL rfl) rfl _ rfl (by kernel_rfl) rfl rfl ?_; intro w L hM T; clear F S; (try rw [HL.out] at hM); clear HL; (try simp [Act.put, Act.eval, Value.cells, splice] at hM); have HL := Lib.hid hM; clear hM; have S := T; clear T; have F := factsAll HL S; (try simp only [factsOf, cellsFrom, and_true, true_and, Nat.reduceAdd] at F))  | (go_at_call 88; refine (C_eqMatrixS _ _ ms _ (HU.out.at_ S) (HV.out.at_ S)).mono ?_; rintro e w ⟨rfl, hb⟩; replace S := S.grow hb; clear hb))
  go_ret
  exact ⟨rfl, S.below⟩
theorem C_eqLayerS (u v : Value) (ls : List Ly) (w0 : World) (hu : SeesLs w0 u ls) (hv : SeesLs w0 v ls) :
    Calls Try.prog 20 #[u, v] w0 fun e w' => e = .returned (.bool true) ∧ Below w0.heap.size w0 w' := by
  obtain ⟨A, cap, rfl, hcap, hmax, hA⟩ := hu
  obtain ⟨B, cap', rfl, hcap', hmax', hB⟩ := hv
  obtain ⟨n, hn⟩ : ∃ n, ls.length = n := ⟨_, rfl⟩
  rw [hn] at hcap hcap' hA hB ⊢
  have HN := Lib.hid hn
  have HA := Lib.hid hA
  have HB := Lib.hid hB
  clear hA hB hn
  unfold maxLen at hmax hmax'
  obtain ⟨L, HL, S⟩ := st_start w0; have F : True := trivial
  go_enter Try.func20, Try.ntmps20
  go_wp2
  go_loopw [5] (fun i wr => ∃ (k : Nat), k ≤ n ∧ i = .int .i64 k ∧ St w0 wr L) (fun i _ => n - (intOf i).toNat)
  case atStart => exact ⟨0, Nat.zero_le _, rfl, S⟩
  case round =>
    clear S
    obtain ⟨k, hk, rfl, S⟩ := hrel
    by_cases hlt : k < n
    · obtain ⟨b, off, rfl, hb, hc⟩ := HA.out (by omega)
      obtain ⟨b', off', rfl, hb', hc'⟩ := HB.out (by omega)
      obtain ⟨l, hm⟩ := some_at HN.out hlt
      obtain ⟨kind, ms⟩ := l
      obtain ⟨x, c1, c2, hx⟩ := hc k _ hm
      obtain ⟨y, d1, d2, hy⟩ := hc' k _ hm
      dsimp only at c1 c2 hx d1 d2 hy
      have f1 := fun w' (S' : St w0 w' L) => (S'.below.cell (p := ⟨b, off + k * 2, none⟩) hb).trans c1
      have f2 := fun w' (S' : St w0 w' L) => (S'.below.cell (p := ⟨b, off + k * 2 + 1, none⟩) hb).trans c2
      have g1 := fun w' (S' : St w0 w' L) => (S'.below.cell (p := ⟨b', off' + k * 2, none⟩) hb').trans d1
      have g2 := fun w' (S' : St w0 w' L) => (S'.below.cell (p := ⟨b', off' + k * 2 + 1, none⟩) hb').trans d2
      have HX := Lib.hid hx
      have HY := Lib.hid hy
      obtain ⟨Ax, capx, rfl, hcx, hmx, _⟩ := hx
      obtain ⟨Ay, capy, rfl, hcy, hmy, _⟩ := hy
      clear hc hc' c1 c2 d1 d2 hm
      go_wp2_with fail
      have HL0 := HL; have F0 := F; refine wp_region_tree (S := fun w' => St w0 w' L) (.calm 0 (.calm 1 (.calm 2 (.calm 3 (.calm 4 (.calm 5 (.calm 6 (.calm 7 (.act 8 (.calm 9 .fin) .stop))))))))) (by kernel_rfl) (by kernel_rfl) (by kernel_rfl) (by intro c a d v w h; cases d <;> exact h) ?_; replace S := S.drew
      repeat (first | (first | (refine tree_calm (v := ?_) ?_ rfl (by decide +kernel) rfl ?_ ?_; rotate_left; (focus (first | exact S | (refine S.sub (subL HL0 HL ?_); (repeat (first | exact List.Sublist.refl _ | apply List.Sublist.cons)); done))); (focus (intro w' hS'; (try dsimp only at hS'); go_simp; try rfl)); (try simp only [Act.put, List.setIfInBounds_toArray, List.set_cons_zero, List.set_cons_succ])) | (refine tree_any (v := ?_) ?_ rfl rfl ?_ ?_; rotate_left; (focus (first | exact S | (refine S.sub (subL HL0 HL ?_); (repeat (first | exact List.Sublist.refl _ | apply List.Sublist.cons)); done))); (focus (intro w'; go_simp; try rfl)); (try simp only [Act.put, List.setIfInBounds_toArray, List.set_cons_zero, List.set_cons_succ]))) | (refine tree_skip ?_ rfl rfl ?_; (focus (first | exact S | (refine S.sub (subL HL0 HL ?_); (repeat (first | exact List.Sublist.refl _ | apply List.Sublist.cons)); done))); (try simp only [Act.put, List.setIfInBounds_toArray, List.set_cons_zero, List.set_cons_succ])) | (refine tree_act rfl rfl ?_ tree_stop; intro K hK; go_wp2_with (first | (go_at_call 53; refine (C_eqLayer kind ms _ _ _ (HX.out.at_ S) (HY.out.at_ S)).mono ?_; rintro e w ⟨rfl, hb⟩; replace S := S.grow hb; clear hb)); (refine hK.out _ _ ?_ ?_; (focus (first | exact fun _ => S | (intro _; refine S.sub (subL HL0 HL ?_); (repeat (first | exact List.Sublist.refl _ | apply List.Sublist.cons)); done) | (refine sink_no ?_; kernel_rfl))); clear hK K; (try simp only [Act.put, List.setIfInBounds_toArray, List.set_cons_zero, List.set_cons_succ]))))
      refine tree_fin ?_
      go_wp2
      go_roundw
      case rel => exact ⟨k + 1, by omega, by go_num, S⟩
      case measure => simp [intOf]; omega
    · obtain rfl : k = n := by omega
      go_wp2
      go_ret
      exact ⟨rfl, S.below⟩
end Go.Proofs.Ytdfpceobfficfaa
