/-
  Contracts: rows of shared matrices and of shared layers: the laws' helpers.
-/
import Derived.Test.YtdfpceobfficfaaLyS
import Derived.Test.YtdfpceobfficfaaSlP
namespace Go.Proofs.Ytdfpceobfficfaa
set_option linter.unusedSimpArgs false
set_option linter.unusedVariables false
set_option linter.unusedSectionVars false
open Go Go.RowKit
set_option maxHeartbeats 8000000
set_option maxRecDepth 20000
theorem infoSMx : (Try.prog.info? 67).map (fun i => (i.zero, i.size, i.bytes)) = some (some (.agg #[.int .i64 0, .int .i64 0, .slice none 0 0, .int .i64 0, .int .i64 0, .slice none 0 0]), 6, 80) := by kernel_rfl
theorem infoSLy : (Try.prog.info? 36).map (fun i => (i.zero, i.size, i.bytes)) = some (some (.agg #[.int .i64 0, .slice none 0 0]), 2, 32) := by kernel_rfl
theorem zSLy : (Try.prog.info? 36).bind (·.zero) = some (.agg #[.int .i64 0, .slice none 0 0]) := by kernel_rfl
theorem C_szSharedMatrix' (r c r' c' : Int) (A B : Option Addr) (n cap m cap' : Nat) (k q : Int) (w0 : World) (hn : n ≤ cap) (hc : cap ≤ maxLen) (hm : m ≤ cap') (hc' : cap' ≤ maxLen) (hk : 0 ≤ k ∧ k ≤ 1000000000) (hq : (if k - n - m < 0 then -1 else k - n - m) = q) :
    Calls Try.prog 116 #[.agg #[.int .i64 r, .int .i64 c, .slice A n cap, .int .i64 r', .int .i64 c', .slice B m cap'], .int .i64 k] w0 fun e w' => e = .returned (.int .i64 q) ∧ Below w0.heap.size w0 w' := hq ▸ C_szSharedMatrix r c r' c' A B n cap m cap' k w0 hn hc hm hc' hk
theorem C_szSharedMatrixS (v : Value) (ms : List SMx) (k z : Int) (w0 : World) (h : SeesSMs w0 v ms) (hk : 0 ≤ k ∧ k ≤ 1000000000) (hz : szSMs ms k = z) :
    Calls Try.prog 86 #[v, .int .i64 k] w0 fun e w' => e = .returned (.int .i64 z) ∧ Below w0.heap.size w0 w' := by
  obtain ⟨A, cap, rfl, hcap, hmax, hA⟩ := h
  obtain ⟨n, hn⟩ : ∃ n, ms.length = n := ⟨_, rfl⟩
  obtain ⟨k1, k2⟩ := hk
  unfold szSMs at hz
  rw [hn] at hcap hA hz ⊢
  unfold maxLen at hmax
  by_cases hs : k - n < 0
  · rw [if_pos hs] at hz
    subst hz
    clear hA hn
    obtain ⟨L, HL, S⟩ := st_start w0; have F : True := trivial
    go_enter Try.func86, Try.ntmps86
    go_wp2_with (first | (refine wpList_box rfl S _ _ rfl ?_; intro g w L hM T; clear F S; (try rw [HL.out] at hM); clear HL; (try simp [Act.put, Act.eval, Value.cells, splice] at hM); have HL := Lib.hid hM; clear hM; have S := T; clear T; have F := factsAll HL S; (try simp only [factsOf, cellsFrom, and_true, true_and, Nat.reduceAdd] at F))  | (refine wpList_store_box rfl S _ _ _ rfl 0 _ _ _ _ (atOf HL rfl) rfl _ rfl (by kernel_rfl) rfl rfl ?_; intro w L hM T; clear F S; (try rw [HL.out] at hM); clear HL; (try simp [Act.put, Act.eval, Value.cells, splice] at hM); have HL := Lib.hid hM; clear hM; have S := T; clear T; have F := factsAll HL S; (try simp only [factsOf, cellsFrom, and_true, true_and, Nat.reduceAdd] at F)) | (refine wpList_store_box rfl S _ _ _ rfl 1 _ _ _ _ (atOf HL rfl) rfl _ rfl (by kernel_rfl) rfl rfl ?_; intro w L hM T; clear F S; (try rw [HL.out] at hM); clear HL; (try simp [Act.put, Act.eval, Value.cells, splice] at hM); have HL := Lib.hid hM; clear hM; have S := T; clear T; have F := factsAll HL S; (try simp only [factsOf, cellsFrom, and_true, true_and, Nat.reduceAdd] at F)) | (refine wpList_store_box rfl S _ _ _ rfl 2 _ _ _ _ (atOf HL rfl) rfl _ rfl (by kernel_rfl) rfl rfl ?_; intro w L hM T; clear F S; (try rw [HL.out] at hM); clear HL; (try simp [Act.put, Act.eval, Value.cells, splice] at hM); have HL := Lib.hid hM; clear hM; have S := T; clear T; have F := factsAll HL S; (try simp only [factsOf, cellsFrom, and_true, true_and, Nat.reduceAdd] at F)) | (refine wpList_store_box rfl S _ _ _ rfl 3 _ _ _ _ (atOf HL rfl) rfl _ rfl (by kernel_rfl) rfl rfl ?_; intro w L hM T; clear F S; (try rw [HL.out] at hM); clear HL; (try simp [Act.put, Act.eval, Value.cells, splice] at hM); have HL := Lib.hid hM; clear hM; have S := T; clear T; have F := factsAll HL S; (try simp only [factsOf, cellsFrom, and_true, true_and, Nat.reduceAdd] at F))  )
    go_ret
    exact ⟨rfl, S.below⟩
  rw [if_neg hs] at hz
  have HA := Lib.hid hA
  have HN := Lib.hid hn
  have HZ := Lib.hid hz
  clear hA hn hz
  obtain ⟨L, HL, S⟩ := st_start w0; have F : True := trivial
  go_enter Try.func86, Try.ntmps86
  go_wp2_with (first | (refine wpList_box rfl S _ _ rfl ?_; intro g w L hM T; clear F S; (try rw [HL.out] at hM); clear HL; (try simp [Act.put, Act.eval, Value.cells, splice] at hM); have HL := Lib.hid hM; clear hM; have S := T; clear T; have F := factsAll HL S; (try simp only [factsOf, cellsFrom, and_true, true_and, Nat.reduceAdd] at F))  | (refine wpList_store_box rfl S _ _ _ rfl 0 _ _ _ _ (atOf HL rfl) rfl _ rfl (by kernel_rfl) rfl rfl ?_; intro w L hM T; clear F S; (try rw [HL.out] at hM); clear HL; (try simp [Act.put, Act.eval, Value.cells, splice] at hM); have HL := Lib.hid hM; clear hM; have S := T; clear T; have F := factsAll HL S; (try simp only [factsOf, cellsFrom, and_true, true_and, Nat.reduceAdd] at F)) | (refine wpList_store_box rfl S _ _ _ rfl 1 _ _ _ _ (atOf HL rfl) rfl _ rfl (by kernel_rfl) rfl rfl ?_; intro w L hM T; clear F S; (try rw [HL.out] at hM); clear HL; (try simp [Act.put, Act.eval, Value.cells, splice] at hM); have HL := Lib.hid hM; clear hM; have S := T; clear T; have F := factsAll HL S; (try simp only [factsOf, cellsFrom, and_true, true_and, Nat.reduceAdd] at F)) | (refine wpList_store_box rfl S _ _ _ rfl 2 _ _ _ _ (atOf HL rfl) rfl _ rfl (by kernel_rfl) rfl rfl ?_; intro w L hM T; clear F S; (try rw [HL.out] at hM); clear HL; (try simp [Act.put, Act.eval, Value.cells, splice] at hM); have HL := Lib.hid hM; clear hM; have S := T; clear T; have F := factsAll HL S; (try simp only [factsOf, cellsFrom, and_true, true_and, Nat.reduceAdd] at F)) | (refine wpList_store_box rfl S _ _ _ rfl 3 _ _ _ _ (atOf HL rfl) rfl _ rfl (by kernel_rfl) rfl rfl ?_; intro w L hM T; clear F S; (try rw [HL.out] at hM); clear HL; (try simp [Act.put, Act.eval, Value.cells, splice] at hM); have HL := Lib.hid hM; clear hM; have S := T; clear T; have F := factsAll HL S; (try simp only [factsOf, cellsFrom, and_true, true_and, Nat.reduceAdd] at F))  )
  go_loopw [5, 1] (fun i l wr => ∃ (j : Nat) (q : Int), j ≤ n ∧ i = .int .i64 j ∧ l = .int .i64 q ∧ 0 ≤ q ∧ q ≤ 1000000000 ∧ Hid (szSMsFrom (ms.drop j) q = z) ∧ St w0 wr L) (fun i _ _ => n - (intOf i).toNat)
  case atStart => exact ⟨0, k - n, Nat.zero_le _, rfl, rfl, by omega, by omega, HZ, S⟩
  case round =>
    clear S HZ
    obtain ⟨j, q, hj, rfl, rfl, q1, q2, HZ, S⟩ := hrel
    by_cases hlt : j < n
    · obtain ⟨b, off, rfl, hb, hc⟩ := HA.out (by omega)
      obtain ⟨m, hm⟩ := some_at HN.out hlt
      obtain ⟨u, t, c1, c2, c3, c4, c5, c6, hu, ht⟩ := hc j m hm
      obtain ⟨_, A', cap', rfl, hcap', hmax', _⟩ := hu
      obtain ⟨_, B', cbp', rfl, hcbp', hmbx', _⟩ := ht
      have hz := HZ.out
      rw [drop_at hm] at hz
      have f1 := fun w' (S' : St w0 w' L) => (S'.below.cell (p := ⟨b, off + j * 6, none⟩) hb).trans c1
      have f2 := fun w' (S' : St w0 w' L) => (S'.below.cell (p := ⟨b, off + j * 6 + 1, none⟩) hb).trans c2
      have f3 := fun w' (S' : St w0 w' L) => (S'.below.cell (p := ⟨b, off + j * 6 + 2, none⟩) hb).trans c3
      have f4 := fun w' (S' : St w0 w' L) => (S'.below.cell (p := ⟨b, off + j * 6 + 3, none⟩) hb).trans c4
      have f5 := fun w' (S' : St w0 w' L) => (S'.below.cell (p := ⟨b, off + j * 6 + 4, none⟩) hb).trans c5
      have f6 := fun w' (S' : St w0 w' L) => (S'.below.cell (p := ⟨b, off + j * 6 + 5, none⟩) hb).trans c6
      clear hc c1 c2 c3 c4 c5 c6 HZ hm
      unfold szSMsFrom at hz
      by_cases hneg : q - m.a.xs.length - m.b.xs.length < 0
      · have E := Lib.hid (if_pos hneg : (if q - m.a.xs.length - m.b.xs.length < 0 then (-1 : Int) else q - m.a.xs.length - m.b.xs.length) = -1)
        rw [if_pos hneg] at hz
        subst hz
        clear hneg
        go_wp2_with (first | (refine wpList_box rfl S _ _ rfl ?_; intro g w L hM T; clear F S; (try rw [HL.out] at hM); clear HL; (try simp [Act.put, Act.eval, Value.cells, splice] at hM); have HL := Lib.hid hM; clear hM; have S := T; clear T; have F := factsAll HL S; (try simp only [factsOf, cellsFrom, and_true, true_and, Nat.reduceAdd] at F)) | (go_at_call 116; refine (C_szSharedMatrix' _ _ _ _ _ _ _ _ _ _ _ _ _ hcap' hmax' hcbp' hmbx' ⟨by omega, by omega⟩ (by exact E.out)).mono ?_; rintro e w ⟨rfl, hb⟩; replace S := S.grow hb; clear hb))
        go_ret
        exact ⟨rfl, S.below⟩
      · obtain ⟨q', hq'⟩ : ∃ q', q - m.a.xs.length - m.b.xs.length = q' := ⟨_, rfl⟩
        have E := Lib.hid ((if_neg hneg).trans hq' : (if q - m.a.xs.length - m.b.xs.length < 0 then (-1 : Int) else q - m.a.xs.length - m.b.xs.length) = q')
        rw [if_neg hneg, hq'] at hz
        have HZ := Lib.hid hz
        have q3 : 0 ≤ q' := by omega
        have q4 : q' ≤ 1000000000 := by omega
        clear hneg hq' hz
        go_wp2_with (first | (refine wpList_box rfl S _ _ rfl ?_; intro g w L hM T; clear F S; (try rw [HL.out] at hM); clear HL; (try simp [Act.put, Act.eval, Value.cells, splice] at hM); have HL := Lib.hid hM; clear hM; have S := T; clear T; have F := factsAll HL S; (try simp only [factsOf, cellsFrom, and_true, true_and, Nat.reduceAdd] at F)) | (go_at_call 116; refine (C_szSharedMatrix' _ _ _ _ _ _ _ _ _ _ _ _ _ hcap' hmax' hcbp' hmbx' ⟨by omega, by omega⟩ (by exact E.out)).mono ?_; rintro e w ⟨rfl, hb⟩; replace S := S.grow hb; clear hb))
        go_roundw
        case rel => exact ⟨j + 1, q', by omega, by go_num, rfl, q3, q4, HZ, S⟩
        case measure => simp [intOf]; omega
    · obtain rfl : j = n := by omega
      have hz := HZ.out
      rw [List.drop_of_length_le (by rw [HN.out]; omega)] at hz
      unfold szSMsFrom at hz
      subst hz
      go_wp2
      go_ret
      exact ⟨rfl, S.below⟩
theorem C_szSharedLayer (v : Value) (l : SLy) (k z : Int) (w0 : World) (h : SeesSMs w0 v l.ws) (hk : 0 ≤ k ∧ k ≤ 1000000000) (hz : szSMs l.ws k = z) (hz' : z < 0 → z = -1) :
    Calls Try.prog 51 #[.agg #[.int .i64 l.kind, v], .int .i64 k] w0 fun e w' => e = .returned (.int .i64 z) ∧ Below w0.heap.size w0 w' := by
  have H := Lib.hid h
  obtain ⟨A, cap, rfl, hcap, hmax, _⟩ := h
  have HZ := Lib.hid hz
  by_cases hneg : z < 0
  · obtain rfl := hz' hneg
    clear hz hz'
    obtain ⟨L, HL, S⟩ := st_start w0; have F : True := trivial
    go_enter Try.func51, Try.ntmps51
    go_wp2_with (first | (refine wpList_box rfl S _ _ rfl ?_; intro g w L hM T; clear F S; (try rw [HL.out] at hM); clear HL; (try simp [Act.put, Act.eval, Value.cells, splice] at hM); have HL := Lib.hid hM; clear hM; have S := T; clear T; have F := factsAll HL S; (try simp only [factsOf, cellsFrom, and_true, true_and, Nat.reduceAdd] at F))  | (refine wpList_store_box rfl S _ _ _ rfl 0 _ _ _ _ (atOf HL rfl) rfl _ rfl (by kernel_rfl) rfl rfl ?_; intro w L hM T; clear F S; (try rw [HL.out] at hM); clear HL; (try simp [Act.put, Act.eval, Value.cells, splice] at hM); have HL := Lib.hid hM; clear hM; have S := T; clear T; have F := factsAll HL S; (try simp only [factsOf, cellsFrom, and_true, true_and, Nat.reduceAdd] at F)) | (refine wpList_store_box rfl S _ _ _ rfl 1 _ _ _ _ (atOf HL rfl) rfl _ rfl (by kernel_rfl) rfl rfl ?_; intro w L hM T; clear F S; (try rw [HL.out] at hM); clear HL; (try simp [Act.put, Act.eval, Value.cells, splice] at hM); have HL := Lib.hid hM; clear hM; have S := T; clear T; have F := factsAll HL S; (try simp only [factsOf, cellsFrom, and_true, true_and, Nat.reduceAdd] at F)) | (refine wpList_store_box rfl S _ _ _ rfl 2 _ _ _ _ (atOf HL rfl) rfl _ rfl (by kernel_rfl) rfl rfl ?_; intro w L hM T; clear F S; (try rw [HL.out] at hM); clear HL; (try simp [Act.put, Act.eval, Value.cells, splice] at hM); have HL := Lib.hid hM; clear hM; have S := T; clear T; have F := factsAll HL S; (try simp only [factsOf, cellsFrom, and_true, true_and, Nat.reduceAdd] at F)) | (refine wpList_store_box rfl S _ _ _ rfl 3 _ _ _ _ (atOf HL rfl) rfl _ rfl (by kernel_rfl) rfl rfl ?_; intro w L hM T; clear F S; (try rw [HL.out] at hM); clear HL; (try simp [Act.put, Act.eval, Value.cells, splice] at hM); have HL := Lib.hid hM; clear hM; have S := T; clear T; have F := factsAll HL S; (try simp only [factsOf, cellsFrom, and_true, true_and, Nat.reduceAdd] at F))  | (go_at_call 86; refine (C_szSharedMatrixS _ _ _ _ _ (H.out.at_ S) hk HZ.out).mono ?_; rintro e w ⟨rfl, hb⟩; replace S := S.grow hb; clear hb))
    go_ret
    exact ⟨rfl, S.below⟩
  · clear hz hz'
    obtain ⟨L, HL, S⟩ := st_start w0; have F : True := trivial
    go_enter Try.func51, Try.ntmps51
    go_wp2_with (first | (refine wpList_box rfl S _ _ rfl ?_; intro g w L hM T; clear F S; (try rw [HL.out] at hM); clear HL; (try simp [Act.put, Act.eval, Value.cells, splice] at hM); have HL := Lib.hid hM; clear hM; have S := T; clear T; have F := factsAll HL S; (try simp only [factsOf, cellsFrom, and_true, true_and, Nat.reduceAdd] at F))  | (refine wpList_store_box rfl S _ _ _ rfl 0 _ _ _ _ (atOf HL rfl) rfl _ rfl (by kernel_rfl) rfl rfl ?_; intro w L hM T; clear F S; (try rw [HL.out] at hM); clear HL; (try simp [Act.put, Act.eval, Value.cells, splice] at hM); have HL := Lib.hid hM; clear hM; have S := T; clear T; have F := factsAll HL S; (try simp only [factsOf, cellsFrom, and_true, true_and, Nat.reduceAdd] at F)) | (refine wpList_store_box rfl S _ _ _ rfl 1 _ _ _ _ (atOf HL rfl) rfl _ rfl (by kernel_rfl) rfl rfl ?_; intro w L hM T; clear F S; (try rw [HL.out] at hM); clear HL; (try simp [Act.put, Act.eval, Value.cells, splice] at hM); have HL := Lib.hid hM; clear hM; have S := T; clear T; have F := factsAll HL S; (try simp only [factsOf, cellsFrom, and_true, true_and, Nat.reduceAdd] at F)) | (refine wpList_store_box rfl S _ _ _ rfl 2 _ _ _ _ (atOf HL rfl) rfl _ rfl (by kernel_rfl) rfl rfl ?_; intro w L hM T; clear F S; (try rw [HL.out] at hM); clear HL; (try simp [Act.put, Act.eval, Value.cells, splice] at hM); have HL := Lib.hid hM; clear hM; have S := T; clear T; have F := factsAll HL S; (try simp only [factsOf, cellsFrom, and_true, true_and, Nat.reduceAdd] at F)) | (refine wpList_store_box rfl S _ _ _ rfl 3 _ _ _ _ (atOf HL rfl) rfl _ rfl (by kernel_rfl) rfl rfl ?_; intro w L hM T; clear F S; (try rw [HL.out] at hM); clear HL; (try simp [Act.put, Act.eval, Value.cells, splice] at hM); have HL := Lib.hid hM; clear hM; have S := T; clear T; have F := factsAll HL S; (try simp only [factsOf, cellsFrom, and_true, true_and, Nat.reduceAdd] at F))  | (go_at_call 86; refine (C_szSharedMatrixS _ _ _ _ _ (H.out.at_ S) hk HZ.out).mono ?_; rintro e w ⟨rfl, hb⟩; replace S := S.grow hb; clear hb))
    go_ret
    exact ⟨rfl, S.below⟩
theorem C_szSharedLayerS (v : Value) (ls : List SLy) (k z : Int) (w0 : World) (h : SeesSLs w0 v ls) (hk : 0 ≤ k ∧ k ≤ 1000000000) (hz : szSLs ls k = z) :
    Calls Try.prog 18 #[v, .int .i64 k] w0 fun e w' => e = .returned (.int .i64 z) ∧ Below w0.heap.size w0 w' := by
  obtain ⟨A, cap, rfl, hcap, hmax, hA⟩ := h
  obtain ⟨n, hn⟩ : ∃ n, ls.length = n := ⟨_, rfl⟩
  obtain ⟨k1, k2⟩ := hk
  unfold szSLs at hz
  rw [hn] at hcap hA hz ⊢
  unfold maxLen at hmax
  by_cases hs : k - n < 0
  · rw [if_pos hs] at hz
    subst hz
    clear hA hn
    obtain ⟨L, HL, S⟩ := st_start w0; have F : True := trivial
    go_enter Try.func18, Try.ntmps18
    go_wp2_with (first | (refine wpList_box rfl S _ _ rfl ?_; intro g w L hM T; clear F S; (try rw [HL.out] at hM); clear HL; (try simp [Act.put, Act.eval, Value.cells, splice] at hM); have HL := Lib.hid hM; clear hM; have S := T; clear T; have F := factsAll HL S; (try simp only [factsOf, cellsFrom, and_true, true_and, Nat.reduceAdd] at F))  | (refine wpList_store_box rfl S _ _ _ rfl 0 _ _ _ _ (atOf HL rfl) rfl _ rfl (by kernel_rfl) rfl rfl ?_; intro w L hM T; clear F S; (try rw [HL.out] at hM); clear HL; (try simp [Act.put, Act.eval, Value.cells, splice] at hM); have HL := Lib.hid hM; clear hM; have S := T; clear T; have F := factsAll HL S; (try simp only [factsOf, cellsFrom, and_true, true_and, Nat.reduceAdd] at F)) | (refine wpList_store_box rfl S _ _ _ rfl 1 _ _ _ _ (atOf HL rfl) rfl _ rfl (by kernel_rfl) rfl rfl ?_; intro w L hM T; clear F S; (try rw [HL.out] at hM); clear HL; (try simp [Act.put, Act.eval, Value.cells, splice] at hM); have HL := Lib.hid hM; clear hM; have S := T; clear T; have F := factsAll HL S; (try simp only [factsOf, cellsFrom, and_true, true_and, Nat.reduceAdd] at F)) | (refine wpList_store_box rfl S _ _ _ rfl 2 _ _ _ _ (atOf HL rfl) rfl _ rfl (by kernel_rfl) rfl rfl ?_; intro w L hM T; clear F S; (try rw [HL.out] at hM); clear HL; (try simp [Act.put, Act.eval, Value.cells, splice] at hM); have HL := Lib.hid hM; clear hM; have S := T; clear T; have F := factsAll HL S; (try simp only [factsOf, cellsFrom, and_true, true_and, Nat.reduceAdd] at F)) | (refine wpList_store_box rfl S _ _ _ rfl 3 _ _ _ _ (atOf HL rfl) rfl _ rfl (by kernel_rfl) rfl rfl ?_; intro w L hM T; clear F S; (try rw [HL.out] at hM); clear HL; (try simp [Act.put, Act.eval, Value.cells, splice] at hM); have HL := Lib.hid hM; clear hM; have S := T; clear T; have F := factsAll HL S; (try simp only [factsOf, cellsFrom, and_true, true_and, Nat.reduceAdd] at F))  )
    go_ret
    exact ⟨rfl, S.below⟩
  rw [if_neg hs] at hz
  have HA := Lib.hid hA
  have HN := Lib.hid hn
  have HZ := Lib.hid hz
  clear hA hn hz
  obtain ⟨L, HL, S⟩ := st_start w0; have F : True := trivial
  go_enter Try.func18, Try.ntmps18
  go_wp2_with (first | (refine wpList_box rfl S _ _ rfl ?_; intro g w L hM T; clear F S; (try rw [HL.out] at hM); clear HL; (try simp [Act.put, Act.eval, Value.cells, splice] at hM); have HL := Lib.hid hM; clear hM; have S := T; clear T; have F := factsAll HL S; (try simp only [factsOf, cellsFrom, and_true, true_and, Nat.reduceAdd] at F))  | (refine wpList_store_box rfl S _ _ _ rfl 0 _ _ _ _ (atOf HL rfl) rfl _ rfl (by kernel_rfl) rfl rfl ?_; intro w L hM T; clear F S; (try rw [HL.out] at hM); clear HL; (try simp [Act.put, Act.eval, Value.cells, splice] at hM); have HL := Lib.hid hM; clear hM; have S := T; clear T; have F := factsAll HL S; (try simp only [factsOf, cellsFrom, and_true, true_and, Nat.reduceAdd] at F)) | (refine wpList_store_box rfl S _ _ _ rfl 1 _ _ _ _ (atOf HL rfl) rfl _ rfl (by kernel_rfl) rfl rfl ?_; intro w L hM T; clear F S; (try rw [HL.out] at hM); clear HL; (try simp [Act.put, Act.eval, Value.cells, splice] at hM); have HL := Lib.hid hM; clear hM; have S := T; clear T; have F := factsAll HL S; (try simp only [factsOf, cellsFrom, and_true, true_and, Nat.reduceAdd] at F)) | (refine wpList_store_box rfl S _ _ _ rfl 2 _ _ _ _ (atOf HL rfl) rfl _ rfl (by kernel_rfl) rfl rfl ?_; intro w L hM T; clear F S; (try rw [HL.out] at hM); clear HL; (try simp [Act.put, Act.eval, Value.cells, splice] at hM); have HL := Lib.hid hM; clear hM; have S := T; clear T; have F := factsAll HL S; (try simp only [factsOf, cellsFrom, and_true, true_and, Nat.reduceAdd] at F)) | (refine wpList_store_box rfl S _ _ _ rfl 3 _ _ _ _ (atOf HL rfl) rfl _ rfl (by kernel_rfl) rfl rfl ?_; intro w L hM T; clear F S; (try rw [HL.out] at hM); clear HL; (try simp [Act.put, Act.eval, Value.cells, splice] at hM); have HL := Lib.hid hM; clear hM; have S := T; clear T; have F := factsAll HL S; (try simp only [factsOf, cellsFrom, and_true, true_and, Nat.reduceAdd] at F))  )
  go_loopw [5, 1] (fun i l wr => ∃ (j : Nat) (q : Int), j ≤ n ∧ i = .int .i64 j ∧ l = .int .i64 q ∧ 0 ≤ q ∧ q ≤ 1000000000 ∧ Hid (szSLsFrom (ls.drop j) q = z) ∧ St w0 wr L) (fun i _ _ => n - (intOf i).toNat)
  case atStart => exact ⟨0, k - n, Nat.zero_le _, rfl, rfl, by omega, by omega, HZ, S⟩
  case round =>
    clear S HZ
    obtain ⟨j, q, hj, rfl, rfl, q1, q2, HZ, S⟩ := hrel
    by_cases hlt : j < n
    · obtain ⟨b, off, rfl, hb, hc⟩ := HA.out (by omega)
      obtain ⟨m, hm⟩ := some_at HN.out hlt
      obtain ⟨u, c1, c2, hu⟩ := hc j m hm
      have HU := Lib.hid hu
      obtain ⟨A', cap', rfl, hcap', hmax', _⟩ := hu
      have hz := HZ.out
      rw [drop_at hm] at hz
      have f1 := fun w' (S' : St w0 w' L) => (S'.below.cell (p := ⟨b, off + j * 2, none⟩) hb).trans c1
      have f2 := fun w' (S' : St w0 w' L) => (S'.below.cell (p := ⟨b, off + j * 2 + 1, none⟩) hb).trans c2
      clear hc c1 c2 HZ hm
      unfold szSLsFrom at hz
      have E0 := szSMs_neg m.ws q
      have E1 := szSMs_le m.ws q q1
      obtain ⟨q', hq'⟩ : ∃ q', szSMs m.ws q = q' := ⟨_, rfl⟩
      rw [hq'] at hz E0 E1
      have HQ := Lib.hid hq'
      have HE := Lib.hid E0
      clear hq' E0
      by_cases hneg : q' < 0
      · rw [if_pos hneg] at hz
        subst hz
        obtain rfl := HE.out hneg
        go_wp2_with (first | (refine wpList_box rfl S _ _ rfl ?_; intro g w L hM T; clear F S; (try rw [HL.out] at hM); clear HL; (try simp [Act.put, Act.eval, Value.cells, splice] at hM); have HL := Lib.hid hM; clear hM; have S := T; clear T; have F := factsAll HL S; (try simp only [factsOf, cellsFrom, and_true, true_and, Nat.reduceAdd] at F)) | (go_at_call 51; refine (C_szSharedLayer _ m _ _ _ (HU.out.at_ S) ⟨by omega, by omega⟩ HQ.out HE.out).mono ?_; rintro e w ⟨rfl, hb⟩; replace S := S.grow hb; clear hb))
        go_ret
        exact ⟨rfl, S.below⟩
      · rw [if_neg hneg] at hz
        have HZ := Lib.hid hz
        have q3 : 0 ≤ q' := by omega
        have q4 : q' ≤ 1000000000 := by omega
        clear hz
        go_wp2_with (first | (refine wpList_box rfl S _ _ rfl ?_; intro g w L hM T; clear F S; (try rw [HL.out] at hM); clear HL; (try simp [Act.put, Act.eval, Value.cells, splice] at hM); have HL := Lib.hid hM; clear hM; have S := T; clear T; have F := factsAll HL S; (try simp only [factsOf, cellsFrom, and_true, true_and, Nat.reduceAdd] at F)) | (go_at_call 51; refine (C_szSharedLayer _ m _ _ _ (HU.out.at_ S) ⟨by omega, by omega⟩ HQ.out HE.out).mono ?_; rintro e w ⟨rfl, hb⟩; replace S := S.grow hb; clear hb))
        go_roundw
        case rel => exact ⟨j + 1, q', by omega, by go_num, rfl, q3, q4, HZ, S⟩
        case measure => simp [intOf]; omega
    · obtain rfl : j = n := by omega
      have hz := HZ.out
      rw [List.drop_of_length_le (by rw [HN.out]; omega)] at hz
      unfold szSLsFrom at hz
      subst hz
      go_wp2
      go_ret
      exact ⟨rfl, S.below⟩
theorem sm_perm (x y r : Ent) (A : List Ent) : (y :: x :: r :: A).Perm (r :: (A ++ [x, y])) := by
  refine ((List.Perm.swap _ _ _).trans ((List.Perm.swap _ _ _).cons _ |>.trans (List.Perm.swap _ _ _))).trans (List.Perm.cons _ ?_)
  exact List.perm_append_comm (l₁ := [x, y]) (l₂ := A)
theorem C_toSharedMatrixS (v : Value) (ms : List SMx) (w0 : World) (h : SeesSMs w0 v ms) (hn0 : ms.length ≤ 1048576) (hx : ∀ m ∈ ms, SMSmall 1048576 m) :
    Calls Try.prog 87 #[v] w0 fun e w => ∃ u ps, e = .returned u ∧ ps.map smO = ms ∧ St w0 w (entsSM u ps) := by
  obtain ⟨A, cap, rfl, hcap, hmax, hA⟩ := h
  obtain ⟨n, hn⟩ : ∃ n, ms.length = n := ⟨_, rfl⟩
  rw [hn] at hcap hA hn0 ⊢
  unfold maxLen at hmax
  have HA := Lib.hid hA
  have HN := Lib.hid hn
  have HX := Lib.hid hx
  clear hA hn hx
  have CT := fun r c xs r' c' ys u v w h h' hn hn' => C_toSharedMatrix r c xs r' c' ys u v w h h' hn hn'
  unfold MakesSMx at CT
  obtain ⟨L, HL, S⟩ := st_start w0; have F : True := trivial
  go_enter Try.func87, Try.ntmps87
  go_wp2_with (at_make; refine wpList_make rfl S _ _ _ rfl 67 _ 6 80 Try.underlying34 infoSMx _ n rfl rfl rfl (by omega) (by simp only [maxLen]; omega) ?_; intro g w L hM T; clear F S; (try rw [HL.out] at hM); clear HL; (try simp [Act.put, Act.eval, Value.cells, splice] at hM); have HL := Lib.hid hM; clear hM; have S := T; clear T; have F := factsAll HL S; (try simp only [factsOf, cellsFrom, and_true, true_and, Nat.reduceAdd] at F))
  obtain ⟨Z, hZ⟩ : ∃ Z, Z = (madeCells #[.int .i64 0, .int .i64 0, .slice none 0 0, .int .i64 0, .int .i64 0, .slice none 0 0] (n * 6)).toList := ⟨_, rfl⟩
  rw [← hZ] at HL
  have hZl : Z.length = n * 6 := by rw [hZ]; simp [madeCells]
  have HZ := Lib.hid hZl
  clear hZ hZl
  go_loopw [4] (fun i wr => ∃ (k : Nat) (ps : SMsO) (L : List Ent), k ≤ n ∧ i = .int .i64 k ∧ Hid (ps.map smO = ms.take k) ∧ Hid (L = .row 67 6 (.slice (some ⟨g, 0, none⟩) n n) n (cellsSM ps ++ Z.drop (k * 6)) :: rowsSM ps) ∧ St w0 wr L) (fun i _ => n - (intOf i).toNat)
  case atStart => exact ⟨0, [], L, Nat.zero_le _, rfl, Lib.hid rfl, HL, S⟩
  case round =>
    clear F HL S
    obtain ⟨k, ps, L, hk, rfl, HP, HL, S⟩ := hrel
    have F : True := trivial
    have hpl : ps.length = k := by
      have := congrArg List.length HP.out
      rw [List.length_map, List.length_take, HN.out] at this
      omega
    by_cases hlt : k < n
    · obtain ⟨b, off, rfl, hb, hc⟩ := HA.out (by omega)
      obtain ⟨m, hm⟩ := some_at HN.out hlt
      obtain ⟨u, t, c1, c2, c3, c4, c5, c6, hu, ht⟩ := hc k m hm
      obtain ⟨hmx, hmy⟩ := HX.out m (List.mem_of_getElem? hm)
      have hp' := take_at hm
      rw [← HP.out] at hp'
      have HP' := Lib.hid hp'
      have f1 := fun w' (S' : St w0 w' L) => (S'.below.cell (p := ⟨b, off + k * 6, none⟩) hb).trans c1
      have f2 := fun w' (S' : St w0 w' L) => (S'.below.cell (p := ⟨b, off + k * 6 + 1, none⟩) hb).trans c2
      have f3 := fun w' (S' : St w0 w' L) => (S'.below.cell (p := ⟨b, off + k * 6 + 2, none⟩) hb).trans c3
      have f4 := fun w' (S' : St w0 w' L) => (S'.below.cell (p := ⟨b, off + k * 6 + 3, none⟩) hb).trans c4
      have f5 := fun w' (S' : St w0 w' L) => (S'.below.cell (p := ⟨b, off + k * 6 + 4, none⟩) hb).trans c5
      have f6 := fun w' (S' : St w0 w' L) => (S'.below.cell (p := ⟨b, off + k * 6 + 5, none⟩) hb).trans c6
      have HU := Lib.hid hu
      have HT := Lib.hid ht
      obtain ⟨_, A', cap', rfl, hcap', hmax', _⟩ := hu
      obtain ⟨_, B', cbp', rfl, hcbp', hmbx', _⟩ := ht
      have hcl := cellsSM_len ps
      rw [hpl] at hcl
      have HC := Lib.hid hcl
      have hk3 : k * 6 + 6 ≤ n * 6 := by omega
      clear hc c1 c2 c3 c4 c5 c6 hp' hcl
      obtain ⟨⟨r, c, xs⟩, ⟨r', c', ys⟩⟩ := m
      dsimp only at *
      go_wp2_with (first | (refine wpList_box rfl S _ _ rfl ?_; intro g w L hM T; clear F S; (try rw [HL.out] at hM); clear HL; (try simp [Act.put, Act.eval, Value.cells, splice] at hM); have HL := Lib.hid hM; clear hM; have S := T; clear T; have F := factsAll HL S; (try simp only [factsOf, cellsFrom, and_true, true_and, Nat.reduceAdd] at F)) | (go_at_call 117; refine (CT r c xs r' c' ys _ _ _ (HU.out.at_ S) (HT.out.at_ S) hmx hmy).mono ?_; rintro e w ⟨u, v, rfl, T0⟩; obtain ⟨L, hM, T⟩ := st_name (S.call T0); clear T0; clear F S; (try rw [HL.out] at hM); clear HL; (try simp [Act.put, Act.eval, Value.cells, splice] at hM); have HL := Lib.hid hM; clear hM; have S := T; clear T; have F := factsAll HL S; (try simp only [factsOf, cellsFrom, and_true, true_and, Nat.reduceAdd] at F); obtain ⟨Av, cv, rfl, hcv, hmv⟩ := S.sliceOf (atOf HL (p := 0) rfl); obtain ⟨Au, cu, rfl, hcu, hmu⟩ := S.sliceOf (atOf HL (p := 1) rfl)) | (refine wpList_store_rowS rfl S _ _ _ rfl 2 _ _ _ _ _ _ _ (atOf HL rfl) rfl ([.int .i64 r, .int .i64 c, .slice Au xs.length cu, .int .i64 r', .int .i64 c', .slice Av ys.length cv]) rfl (by kernel_rfl) rfl (show _ + 6 ≤ _ from by omega) ?_; intro w L hM T; clear F S; (try rw [HL.out] at hM); clear HL; (try simp [Act.put, Act.eval, Value.cells] at hM); have HL := Lib.hid hM; clear hM; have S := T; clear T; have F := factsAll HL S; (try simp only [factsOf, cellsFrom, and_true, true_and, Nat.reduceAdd] at F)))
      go_roundw
      case rel =>
        rw [HL.out] at S
        have e : splice (cellsSM ps ++ Z.drop (k * 6)) (k * 6) [.int .i64 r, .int .i64 c, .slice Au xs.length cu, .int .i64 r', .int .i64 c', .slice Av ys.length cv] = cellsSM (ps ++ [(.slice Au xs.length cu, .slice Av ys.length cv, ⟨⟨r, c, xs⟩, ⟨r', c', ys⟩⟩)]) ++ Z.drop ((k + 1) * 6) := by
          rw [splice_app _ _ _ _ HC.out, List.drop_drop, cellsSM_add, Nat.succ_mul]; rfl
        rw [e] at S
        have T := S.perm (sm_perm _ _ _ _)
        exact ⟨k + 1, ps ++ [(.slice Au xs.length cu, .slice Av ys.length cv, ⟨⟨r, c, xs⟩, ⟨r', c', ys⟩⟩)], _, by omega, by go_num, Lib.hid (by rw [List.map_append, HP'.out]; rfl), Lib.hid (by rw [rowsSM_add]; rfl), T⟩
      case measure => simp [intOf]; omega
    · obtain rfl : k = n := by omega
      go_wp2
      go_ret
      rw [HL.out, List.drop_of_length_le (Nat.le_of_eq HZ.out), List.append_nil] at S
      have hp := HP.out
      rw [List.take_of_length_le (Nat.le_of_eq HN.out)] at hp
      refine ⟨_, ps, rfl, hp, ?_⟩
      unfold entsSM
      rw [hpl]
      exact S
theorem C_toSharedLayer (k : Int) (v : Value) (ms : List SMx) (w0 : World) (h : SeesSMs w0 v ms) (hn : ms.length ≤ 1048576) (hx : ∀ m ∈ ms, SMSmall 1048576 m) :
    Calls Try.prog 52 #[.agg #[.int .i64 k, v]] w0 fun e w => ∃ u ps, e = .returned (.agg #[.int .i64 k, u]) ∧ ps.map smO = ms ∧ St w0 w (entsSM u ps) := by
  have H := Lib.hid h
  have HX := Lib.hid hx
  obtain ⟨A, cap, rfl, hcap, hmax, _⟩ := h
  clear hx
  obtain ⟨L, HL, S⟩ := st_start w0; have F : True := trivial
  go_enter Try.func52, Try.ntmps52
  go_wp2_with (first | (refine wpList_box rfl S _ _ rfl ?_; intro g w L hM T; clear F S; (try rw [HL.out] at hM); clear HL; (try simp [Act.put, Act.eval, Value.cells, splice] at hM); have HL := Lib.hid hM; clear hM; have S := T; clear T; have F := factsAll HL S; (try simp only [factsOf, cellsFrom, and_true, true_and, Nat.reduceAdd] at F)) | (refine wpList_alloc rfl S 36 _ rfl zSLy ?_; intro g w L hM T; clear F S; (try rw [HL.out] at hM); clear HL; (try simp [Act.put, Act.eval, Value.cells, splice] at hM); have HL := Lib.hid hM; clear hM; have S := T; clear T; have F := factsAll HL S; (try simp only [factsOf, cellsFrom, and_true, true_and, Nat.reduceAdd] at F)) | (refine wpList_store_box rfl S _ _ _ rfl 0 _ _ _ _ (atOf HL rfl) rfl _ rfl (by kernel_rfl) rfl rfl ?_; intro w L hM T; clear F S; (try rw [HL.out] at hM); clear HL; (try simp [Act.put, Act.eval, Value.cells, splice] at hM); have HL := Lib.hid hM; clear hM; have S := T; clear T; have F := factsAll HL S; (try simp only [factsOf, cellsFrom, and_true, true_and, Nat.reduceAdd] at F)) | (refine wpList_store_box rfl S _ _ _ rfl 1 _ _ _ _ (atOf HL rfl) rfl _ rfl (by kernel_rfl) rfl rfl ?_; intro w L hM T; clear F S; (try rw [HL.out] at hM); clear HL; (try simp [Act.put, Act.eval, Value.cells, splice] at hM); have HL := Lib.hid hM; clear hM; have S := T; clear T; have F := factsAll HL S; (try simp only [factsOf, cellsFrom, and_true, true_and, Nat.reduceAdd] at F)) | (refine wpList_store_box rfl S _ _ _ rfl 2 _ _ _ _ (atOf HL rfl) rfl _ rfl (by kernel_rfl) rfl rfl ?_; intro w L hM T; clear F S; (try rw [HL.out] at hM); clear HL; (try simp [Act.put, Act.eval, Value.cells, splice] at hM); have HL := Lib.hid hM; clear hM; have S := T; clear T; have F := factsAll HL S; (try simp only [factsOf, cellsFrom, and_true, true_and, Nat.reduceAdd] at F)) | (refine wpList_store_box rfl S _ _ _ rfl 3 _ _ _ _ (atOf HL rfl) rfl _ rfl (by kernel_rfl) rfl rfl ?_; intro w L hM T; clear F S; (try rw [HL.out] at hM); clear HL; (try simp [Act.put, Act.eval, Value.cells, splice] at hM); have HL := Lib.hid hM; clear hM; have S := T; clear T; have F := factsAll HL S; (try simp only [factsOf, cellsFrom, and_true, true_and, Nat.reduceAdd] at F))  | (go_at_call 87; refine (C_toSharedMatrixS _ ms _ (H.out.at_ S) hn HX.out).mono ?_; rintro e w ⟨u, ps, rfl, hps, T0⟩; have HPS := Lib.hid hps; clear hps; obtain ⟨Au, cu, rfl, hcu, hmu⟩ := T0.sliceOf (p := 0) (show At _ 0 _ from rfl); obtain ⟨L, hM, T⟩ := st_name ((S.call T0).perm List.perm_append_comm); clear T0; clear F S; (try rw [HL.out] at hM); clear HL; (try simp [Act.put, Act.eval, Value.cells, splice] at hM); have HL := Lib.hid hM; clear hM; have S := T; clear T; have F := factsAll HL S; (try simp only [factsOf, cellsFrom, and_true, true_and, Nat.reduceAdd] at F)))
  ((try simp only [Exit.inBlock, Exit.then]); refine ret1 rfl (resCell S HL 1 rfl rfl (by kernel_rfl)) rfl ?_)
  exact ⟨_, ps, rfl, HPS.out, (by rw [HL.out] at S; exact S.sub (by repeat (first | exact .refl _ | exact List.nil_sublist _ | apply List.Sublist.cons_cons | apply List.Sublist.cons)))⟩
theorem C_toSharedLayerS (v : Value) (ls : List SLy) (w0 : World) (h : SeesSLs w0 v ls) (hn0 : ls.length ≤ 1048576) (hx : ∀ l ∈ ls, SLySmall 1048576 l) :
    Calls Try.prog 19 #[v] w0 fun e w => ∃ u qs, e = .returned u ∧ qs.map slyO = ls ∧ St w0 w (entsSL u qs) := by
  obtain ⟨A, cap, rfl, hcap, hmax, hA⟩ := h
  obtain ⟨n, hn⟩ : ∃ n, ls.length = n := ⟨_, rfl⟩
  rw [hn] at hcap hA hn0 ⊢
  unfold maxLen at hmax
  have HA := Lib.hid hA
  have HN := Lib.hid hn
  have HX := Lib.hid hx
  clear hA hn hx
  obtain ⟨L, HL, S⟩ := st_start w0; have F : True := trivial
  go_enter Try.func19, Try.ntmps19
  go_wp2_with (at_make; refine wpList_make rfl S _ _ _ rfl 36 _ 2 32 Try.underlying23 infoSLy _ n rfl rfl rfl (by omega) (by simp only [maxLen]; omega) ?_; intro g w L hM T; clear F S; (try rw [HL.out] at hM); clear HL; (try simp [Act.put, Act.eval, Value.cells, splice] at hM); have HL := Lib.hid hM; clear hM; have S := T; clear T; have F := factsAll HL S; (try simp only [factsOf, cellsFrom, and_true, true_and, Nat.reduceAdd] at F))
  obtain ⟨Z, hZ⟩ : ∃ Z, Z = (madeCells #[.int .i64 0, .slice none 0 0] (n * 2)).toList := ⟨_, rfl⟩
  rw [← hZ] at HL
  have hZl : Z.length = n * 2 := by rw [hZ]; simp [madeCells]
  have HZ := Lib.hid hZl
  clear hZ hZl
  go_loopw [4] (fun i wr => ∃ (k : Nat) (qs : SLsO) (L : List Ent), k ≤ n ∧ i = .int .i64 k ∧ Hid (qs.map slyO = ls.take k) ∧ Hid (L = .row 36 2 (.slice (some ⟨g, 0, none⟩) n n) n (cellsSL qs ++ Z.drop (k * 2)) :: rowsSL qs) ∧ St w0 wr L) (fun i _ => n - (intOf i).toNat)
  case atStart => exact ⟨0, [], L, Nat.zero_le _, rfl, Lib.hid rfl, HL, S⟩
  case round =>
    clear F HL S
    obtain ⟨k, qs, L, hk, rfl, HP, HL, S⟩ := hrel
    have F : True := trivial
    have hpl : qs.length = k := by
      have := congrArg List.length HP.out
      rw [List.length_map, List.length_take, HN.out] at this
      omega
    by_cases hlt : k < n
    · obtain ⟨b, off, rfl, hb, hc⟩ := HA.out (by omega)
      obtain ⟨l, hm⟩ := some_at HN.out hlt
      obtain ⟨kind, ms⟩ := l
      obtain ⟨x, c1, c2, hu⟩ := hc k _ hm
      obtain ⟨hm1, hm2⟩ := HX.out _ (List.mem_of_getElem? hm)
      have hp' := take_at hm
      rw [← HP.out] at hp'
      have HP' := Lib.hid hp'
      dsimp only at c1 c2 hu hm1 hm2
      have f1 := fun w' (S' : St w0 w' L) => (S'.below.cell (p := ⟨b, off + k * 2, none⟩) hb).trans c1
      have f2 := fun w' (S' : St w0 w' L) => (S'.below.cell (p := ⟨b, off + k * 2 + 1, none⟩) hb).trans c2
      have HU := Lib.hid hu
      obtain ⟨A', cap', rfl, hcap', hmax', _⟩ := hu
      have hcl := cellsSL_len qs
      rw [hpl] at hcl
      have HC := Lib.hid hcl
      have HM2 := Lib.hid hm2
      have hk3 : k * 2 + 2 ≤ n * 2 := by omega
      clear hc c1 c2 hp' hcl hm hm2
      go_wp2_with (first | (refine wpList_box rfl S _ _ rfl ?_; intro g w L hM T; clear F S; (try rw [HL.out] at hM); clear HL; (try simp [Act.put, Act.eval, Value.cells, splice] at hM); have HL := Lib.hid hM; clear hM; have S := T; clear T; have F := factsAll HL S; (try simp only [factsOf, cellsFrom, and_true, true_and, Nat.reduceAdd] at F)) | (go_at_call 52; refine (C_toSharedLayer kind _ ms _ (HU.out.at_ S) hm1 HM2.out).mono ?_; rintro e w ⟨u, ps, rfl, hps, T0⟩; have HPS := Lib.hid hps; clear hps; obtain ⟨Au, cu, rfl, hcu, hmu⟩ := T0.sliceOf (p := 0) (show At _ 0 _ from rfl); obtain ⟨L, hM, T⟩ := st_name ((S.call T0).perm List.perm_append_comm); clear T0; clear F S; (try rw [HL.out] at hM); clear HL; (try simp [Act.put, Act.eval, Value.cells, splice] at hM); have HL := Lib.hid hM; clear hM; have S := T; clear T; have F := factsAll HL S; (try simp only [factsOf, cellsFrom, and_true, true_and, Nat.reduceAdd] at F)) | (refine wpList_store_rowS rfl S _ _ _ rfl 0 _ _ _ _ _ _ _ (atOf HL rfl) rfl ([.int .i64 kind, .slice Au ps.length cu]) rfl (by kernel_rfl) rfl (show _ + 2 ≤ _ from by omega) ?_; intro w L hM T; clear F S; (try rw [HL.out] at hM); clear HL; (try simp [Act.put, Act.eval, Value.cells] at hM); have HL := Lib.hid hM; clear hM; have S := T; clear T; have F := factsAll HL S; (try simp only [factsOf, cellsFrom, and_true, true_and, Nat.reduceAdd] at F)))
      go_roundw
      case rel =>
        rw [HL.out] at S
        have e : splice (cellsSL qs ++ Z.drop (k * 2)) (k * 2) [.int .i64 kind, .slice Au ps.length cu] = cellsSL (qs ++ [(.slice Au ps.length cu, kind, ps)]) ++ Z.drop ((k + 1) * 2) := by
          rw [splice_app _ _ _ _ HC.out, List.drop_drop, cellsSL_add, Nat.succ_mul]; rfl
        rw [e] at S
        exact ⟨k + 1, qs ++ [(.slice Au ps.length cu, kind, ps)], _, by omega, by go_num, Lib.hid (by rw [List.map_append, HP'.out]; simp [slyO, HPS.out]), Lib.hid (by rw [rowsSL_add]; simp [rowsSL, rowSL]), S⟩
      case measure => simp [intOf]; omega
    · obtain rfl : k = n := by omega
      go_wp2
      go_ret
      rw [HL.out, List.drop_of_length_le (Nat.le_of_eq HZ.out), List.append_nil] at S
      have hp := HP.out
      rw [List.take_of_length_le (Nat.le_of_eq HN.out)] at hp
      refine ⟨_, qs, rfl, hp, ?_⟩
      unfold entsSL
      rw [hpl]
      exact S
theorem C_eqSharedMatrixS (u v : Value) (ms : List SMx) (w0 : World) (hu : SeesSMs w0 u ms) (hv : SeesSMs w0 v ms) :
    Calls Try.prog 89 #[u, v] w0 fun e w' => e = .returned (.bool true) ∧ Below w0.heap.size w0 w' := by
  obtain ⟨A, cap, rfl, hcap, hmax, hA⟩ := hu
  obtain ⟨B, cap', rfl, hcap', hmax', hB⟩ := hv
  obtain ⟨n, hn⟩ : ∃ n, ms.length = n := ⟨_, rfl⟩
  rw [hn] at hcap hcap' hA hB ⊢
  have HN := Lib.hid hn
  have HA := Lib.hid hA
  have HB := Lib.hid hB
  clear hA hB hn
  unfold maxLen at hmax hmax'
  obtain ⟨L, HL, S⟩ := st_start w0; have F : True := trivial
  go_enter Try.func89, Try.ntmps89
  go_wp2
  go_loopw [5] (fun i wr => ∃ (k : Nat), k ≤ n ∧ i = .int .i64 k ∧ St w0 wr L) (fun i _ => n - (intOf i).toNat)
  case atStart => exact ⟨0, Nat.zero_le _, rfl, S⟩
  case round =>
    clear S
    obtain ⟨k, hk, rfl, S⟩ := hrel
    by_cases hlt : k < n
    · obtain ⟨b, off, rfl, hb, hc⟩ := HA.out (by omega)
      obtain ⟨b', off', rfl, hb', hc'⟩ := HB.out (by omega)
      obtain ⟨m, hm⟩ := some_at HN.out hlt
      obtain ⟨⟨r, c, xs⟩, ⟨r', c', ys⟩⟩ := m
      obtain ⟨x, x', c1, c2, c3, c4, c5, c6, hx, hx'⟩ := hc k _ hm
      obtain ⟨y, y', d1, d2, d3, d4, d5, d6, hy, hy'⟩ := hc' k _ hm
      dsimp only at c1 c2 c3 c4 c5 c6 hx hx' d1 d2 d3 d4 d5 d6 hy hy'
      have f1 := fun w' (S' : St w0 w' L) => (S'.below.cell (p := ⟨b, off + k * 6, none⟩) hb).trans c1
      have f2 := fun w' (S' : St w0 w' L) => (S'.below.cell (p := ⟨b, off + k * 6 + 1, none⟩) hb).trans c2
      have f3 := fun w' (S' : St w0 w' L) => (S'.below.cell (p := ⟨b, off + k * 6 + 2, none⟩) hb).trans c3
      have f4 := fun w' (S' : St w0 w' L) => (S'.below.cell (p := ⟨b, off + k * 6 + 3, none⟩) hb).trans c4
      have f5 := fun w' (S' : St w0 w' L) => (S'.below.cell (p := ⟨b, off + k * 6 + 4, none⟩) hb).trans c5
      have f6 := fun w' (S' : St w0 w' L) => (S'.below.cell (p := ⟨b, off + k * 6 + 5, none⟩) hb).trans c6
      have g1 := fun w' (S' : St w0 w' L) => (S'.below.cell (p := ⟨b', off' + k * 6, none⟩) hb').trans d1
      have g2 := fun w' (S' : St w0 w' L) => (S'.below.cell (p := ⟨b', off' + k * 6 + 1, none⟩) hb').trans d2
      have g3 := fun w' (S' : St w0 w' L) => (S'.below.cell (p := ⟨b', off' + k * 6 + 2, none⟩) hb').trans d3
      have g4 := fun w' (S' : St w0 w' L) => (S'.below.cell (p := ⟨b', off' + k * 6 + 3, none⟩) hb').trans d4
      have g5 := fun w' (S' : St w0 w' L) => (S'.below.cell (p := ⟨b', off' + k * 6 + 4, none⟩) hb').trans d5
      have g6 := fun w' (S' : St w0 w' L) => (S'.below.cell (p := ⟨b', off' + k * 6 + 5, none⟩) hb').trans d6
      have HX := Lib.hid hx
      have HY := Lib.hid hy
      have HX' := Lib.hid hx'
      have HY' := Lib.hid hy'
      obtain ⟨_, Ax, capx, rfl, hcx, hmx, _⟩ := hx
      obtain ⟨_, Ay, capy, rfl, hcy, hmy, _⟩ := hy
      obtain ⟨_, Ax', capx', rfl, hcx', hmx', _⟩ := hx'
      obtain ⟨_, Ay', capy', rfl, hcy', hmy', _⟩ := hy'
      clear hc hc' c1 c2 c3 c4 c5 c6 d1 d2 d3 d4 d5 d6 hm
      go_wp2_with fail
      have HL0 := HL; have F0 := F; refine wp_region_tree (S := fun w' => St w0 w' L) (.calm 0 (.calm 1 (.calm 2 (.calm 3 (.calm 4 (.calm 5 (.calm 6 (.calm 7 (.act 8 (.calm 9 .fin) .stop))))))))) (by kernel_rfl) (by kernel_rfl) (by kernel_rfl) (by intro c a d v w h; cases d <;> exact h) ?_; replace S := S.drew
      repeat (first | (first | (refine tree_calm (v := ?_) ?_ rfl (by decide +kernel) rfl ?_ ?_; rotate_left; (focus (first | exact S | (refine S.sub (subL HL0 HL ?_); (repeat (first | exact List.Sublist.refl _ | apply List.Sublist.cons)); done))); (focus (intro w' hS'; (try dsimp only at hS'); go_simp; try rfl)); (try simp only [Act.put, List.setIfInBounds_toArray, List.set_cons_zero, List.set_cons_succ])) | (refine tree_any (v := ?_) ?_ rfl rfl ?_ ?_; rotate_left; (focus (first | exact S | (refine S.sub (subL HL0 HL ?_); (repeat (first | exact List.Sublist.refl _ | apply List.Sublist.cons)); done))); (focus (intro w'; go_simp; try rfl)); (try simp only [Act.put, List.setIfInBounds_toArray, List.set_cons_zero, List.set_cons_succ]))) | (refine tree_skip ?_ rfl rfl ?_; (focus (first | exact S | (refine S.sub (subL HL0 HL ?_); (repeat (first | exact List.Sublist.refl _ | apply List.Sublist.cons)); done))); (try simp only [Act.put, List.setIfInBounds_toArray, List.set_cons_zero, List.set_cons_succ])) | (refine tree_act rfl rfl ?_ tree_stop; intro K hK; go_wp2_with (first | (go_at_call 119; refine (C_eqSharedMatrix r c xs r' c' ys _ _ _ _ _ (HX.out.at_ S) (HX'.out.at_ S) (HY.out.at_ S) (HY'.out.at_ S)).mono ?_; rintro e w ⟨rfl, hb⟩; replace S := S.grow hb; clear hb)); (refine hK.out _ _ ?_ ?_; (focus (first | exact fun _ => S | (intro _; refine S.sub (subL HL0 HL ?_); (repeat (first | exact List.Sublist.refl _ | apply List.Sublist.cons)); done) | (refine sink_no ?_; kernel_rfl))); clear hK K; (try simp only [Act.put, List.setIfInBounds_toArray, List.set_cons_zero, List.set_cons_succ]))))
      refine tree_fin ?_
      go_wp2
      go_roundw
      case rel => exact ⟨k + 1, by omega, by go_num, S⟩
      case measure => simp [intOf]; omega
    · obtain rfl : k = n := by omega
      go_wp2
      go_ret
      exact ⟨rfl, S.below⟩
theorem C_eqSharedLayer (k : Int) (ms : List SMx) (u v : Value) (w0 : World) (hu : SeesSMs w0 u ms) (hv : SeesSMs w0 v ms) :
    Calls Try.prog 54 #[.agg #[.int .i64 k, u], .agg #[.int .i64 k, v]] w0 fun e w' => e = .returned (.bool true) ∧ Below w0.heap.size w0 w' := by
  have HU := Lib.hid hu
  have HV := Lib.hid hv
  obtain ⟨A, cap, rfl, hcap, hmax, _⟩ := hu
  obtain ⟨B, cap', rfl, hcap', hmax', _⟩ := hv
  obtain ⟨L, HL, S⟩ := st_start w0; have F : True := trivial
  go_enter Try.func54, Try.ntmps54
  go_wp2_with (first | (refine wpList_box rfl S _ _ rfl ?_; intro g w L hM T; clear F S; (try rw [HL.out] at hM); clear HL; (try simp [Act.put, Act.eval, Value.cells, splice] at hM); have HL := Lib.hid hM; clear hM; have S := T; clear T; have F := factsAll HL S; (try simp only [factsOf, cellsFrom, and_true, true_and, Nat.reduceAdd] at F))  | (refine wpList_store_box rfl S _ _ _ rfl 0 _ _ _ _ (atOf HL rfl) rfl _ rfl (by kernel_rfl) rfl rfl ?_; intro w L hM T; clear F S; (try rw [HL.out] at hM); clear HL; (try simp [Act.put, Act.eval, Value.cells, splice] at hM); have HL := Lib.hid hM; clear hM; have S := T; clear T; have F := factsAll HL S; (try simp only [factsOf, cellsFrom, and_true, true_and, Nat.reduceAdd] at F)) | (refine wpList_store_box rfl S _ _ _ rfl 1 _ _ _ _ (atOf HL rfl) rfl _ rfl (by kernel_rfl) rfl rfl ?_; intro w L hM T; clear F S; (try rw [HL.out] at hM); clear HL; (try simp [Act.put, Act.eval, Value.cells, splice] at hM); have HL := Lib.hid hM; clear hM; have S := T; clear T; have F := factsAll HL S; (try simp only [factsOf, cellsFrom, and_true, true_and, Nat.reduceAdd] at F)) | (refine wpList_store_box rfl S _ _ _ rfl 2 _ _ _ _ (atOf HL rfl) rfl _ rfl (by kernel_rfl) rfl rfl ?_; intro w L hM T; clear F S; (try rw [HL.out] at hM); clear HL; (try simp [Act.put, Act.eval, Value.cells, splice] at hM); have HL := Lib.hid hM; clear hM; have S := T; clear T; have F := factsAll HL S; (try simp only [factsOf, cellsFrom, and_true, true_and, Nat.reduceAdd] at F)) | (refine wpList_store_box rfl S _ _ _ rfl 3 _ _ _ _ (atOf HL rfl) rfl _ rfl (by kernel_rfl) rfl rfl ?_; intro w L hM T; clear F S; (try rw [HL.out] at hM); clear HL; (try simp [Act.put, Act.eval, Value.cells, splice] at hM); have HL := Lib.hid hM; clear hM; have S := T; clear T; have F := factsAll HL S; (try simp only [factsOf, cellsFrom, and_true, true_and, Nat.reduceAdd] at F))  | (go_at_call 89; refine (C_eqSharedMatrixS _ _ ms _ (HU.out.at_ S) (HV.out.at_ S)).mono ?_; rintro e w ⟨rfl, hb⟩; replace S := S.grow hb; clear hb))
  go_ret
  exact ⟨rfl, S.below⟩
theorem C_eqSharedLayerS (u v : Value) (ls : List SLy) (w0 : World) (hu : SeesSLs w0 u ls) (hv : SeesSLs w0 v ls) :
    Calls Try.prog 21 #[u, v] w0 fun e w' => e = .returned (.bool true) ∧ Below w0.heap.size w0 w' := by
  obtain ⟨A, cap, rfl, hcap, hmax, hA⟩ := hu
  obtain ⟨B, cap', rfl, hcap', hmax', hB⟩ := hv
  obtain ⟨n, hn⟩ : ∃ n, ls.length = n := ⟨_, rfl⟩
  rw [hn] at hcap hcap' hA hB ⊢
  have HN := Lib.hid hn
  have HA := Lib.hid hA
  have HB := Lib.hid hB
  clear hA hB hn
  unfold maxLen at hmax hmax'
  obtain ⟨L, HL, S⟩ := st_start w0; have F : True := trivial
  go_enter Try.func21, Try.ntmps21
  go_wp2
  go_loopw [5] (fun i wr => ∃ (k : Nat), k ≤ n ∧ i = .int .i64 k ∧ St w0 wr L) (fun i _ => n - (intOf i).toNat)
  case atStart => exact ⟨0, Nat.zero_le _, rfl, S⟩
  case round =>
    clear S
    obtain ⟨k, hk, rfl, S⟩ := hrel
    by_cases hlt : k < n
    · obtain ⟨b, off, rfl, hb, hc⟩ := HA.out (by omega)
      obtain ⟨b', off', rfl, hb', hc'⟩ := HB.out (by omega)
      obtain ⟨l, hm⟩ := some_at HN.out hlt
      obtain ⟨kind, ms⟩ := l
      obtain ⟨x, c1, c2, hx⟩ := hc k _ hm
      obtain ⟨y, d1, d2, hy⟩ := hc' k _ hm
      dsimp only at c1 c2 hx d1 d2 hy
      have f1 := fun w' (S' : St w0 w' L) => (S'.below.cell (p := ⟨b, off + k * 2, none⟩) hb).trans c1
      have f2 := fun w' (S' : St w0 w' L) => (S'.below.cell (p := ⟨b, off + k * 2 + 1, none⟩) hb).trans c2
      have g1 := fun w' (S' : St w0 w' L) => (S'.below.cell (p := ⟨b', off' + k * 2, none⟩) hb').trans d1
      have g2 := fun w' (S' : St w0 w' L) => (S'.below.cell (p := ⟨b', off' + k * 2 + 1, none⟩) hb').trans d2
      have HX := Lib.hid hx
      have HY := Lib.hid hy
      obtain ⟨Ax, capx, rfl, hcx, hmx, _⟩ := hx
      obtain ⟨Ay, capy, rfl, hcy, hmy, _⟩ := hy
      clear hc hc' c1 c2 d1 d2 hm
      go_wp2_with fail
      have HL0 := HL; have F0 := F; refine wp_region_tree (S := fun w' => St w0 w' L) (.calm 0 (.calm 1 (.calm 2 (.calm 3 (.calm 4 (.calm 5 (.calm 6 (.calm 7 (.act 8 (.calm 9 .fin) .stop))))))))) (by kernel_rfl) (by kernel_rfl) (by kernel_rfl) (by intro c a d v w h; cases d <;> exact h) ?_; replace S := S.drew
      repeat (first | (first | (refine tree_calm (v := ?_) ?_ rfl (by decide +kernel) rfl ?_ ?_; rotate_left; (focus (first | exact S | (refine S.sub (subL HL0 HL ?_); (repeat (first | exact List.Sublist.refl _ | apply List.Sublist.cons)); done))); (focus (intro w' hS'; (try dsimp only at hS'); go_simp; try rfl)); (try simp only [Act.put, List.setIfInBounds_toArray, List.set_cons_zero, List.set_cons_succ])) | (refine tree_any (v := ?_) ?_ rfl rfl ?_ ?_; rotate_left; (focus (first | exact S | (refine S.sub (subL HL0 HL ?_); (repeat (first | exact List.Sublist.refl _ | apply List.Sublist.cons)); done))); (focus (intro w'; go_simp; try rfl)); (try simp only [Act.put, List.setIfInBounds_toArray, List.set_cons_zero, List.set_cons_succ]))) | (refine tree_skip ?_ rfl rfl ?_; (focus (first | exact S | (refine S.sub (subL HL0 HL ?_); (repeat (first | exact List.Sublist.refl _ | apply List.Sublist.cons)); done))); (try simp only [Act.put, List.setIfInBounds_toArray, List.set_cons_zero, List.set_cons_succ])) | (refine tree_act rfl rfl ?_ tree_stop; intro K hK; go_wp2_with (first | (go_at_call 54; refine (C_eqSharedLayer kind ms _ _ _ (HX.out.at_ S) (HY.out.at_ S)).mono ?_; rintro e w ⟨rfl, hb⟩; replace S := S.grow hb; clear hb)); (refine hK.out _ _ ?_ ?_; (focus (first | exact fun _ => S | (intro _; refine S.sub (subL HL0 HL ?_); (repeat (first | exact List.Sublist.refl _ | apply List.Sublist.cons)); done) | (refine sink_no ?_; kernel_rfl))); clear hK K; (try simp only [Act.put, List.setIfInBounds_toArray, List.set_cons_zero, List.set_cons_succ]))))
      refine tree_fin ?_
      go_wp2
      go_roundw
      case rel => exact ⟨k + 1, by omega, by go_num, S⟩
      case measure => simp [intOf]; omega
    · obtain rfl : k = n := by omega
      go_wp2
      go_ret
      exact ⟨rfl, S.below⟩
end Go.Proofs.Ytdfpceobfficfaa
