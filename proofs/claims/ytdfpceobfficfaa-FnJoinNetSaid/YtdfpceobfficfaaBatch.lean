/-
  Contracts: sums of batches of checked numbers.
-/
import Derived.Test.YtdfpceobfficfaaPlainB
namespace Go.Proofs.Ytdfpceobfficfaa
set_option linter.unusedSimpArgs false
set_option linter.unusedVariables false
set_option linter.unusedSectionVars false
open Go Go.RowKit
set_option maxHeartbeats 8000000
set_option maxRecDepth 20000
theorem batch_big {n : Nat} {zs ts : List Int} (h : n > 20) : batchSum n zs ts = Ck.none_ := batchSum_not fun hb => by have := (batchOk_iff.1 hb).1; omega
theorem batch_len {n : Nat} {zs ts : List Int} (h : ts.length ≠ n) : batchSum n zs ts = Ck.none_ := batchSum_not fun hb => h (batchOk_iff.1 hb).2.1
theorem batch_ring {n : Nat} {zs ts : List Int} (h : ts.all rv = false) : batchSum n zs ts = Ck.none_ := batchSum_not fun hb => by simp [batchOk, h] at hb
theorem batch_ck {n k : Nat} {zs ts : List Int} (hk : k < n) (h : (ckAt zs k).ok = false) : batchSum n zs ts = Ck.none_ := batchSum_not fun hb => by
  have := (batchOk_iff.1 hb).2.2.2 k hk
  rw [h] at this; cases this
theorem batch_time {n k : Nat} {zs ts : List Int} (hk : k < n) (h : rv (ts.getD k 0) = false) : batchSum n zs ts = Ck.none_ := batchSum_not fun hb => by
  have := (batchOk_iff.1 hb).2.2.1 k hk
  rw [h] at this; cases this
theorem all_getD {ts : List Int} (h : ts.all rv = true) : ∀ k, k < ts.length → rv (ts.getD k 0) = true := by
  intro k hk
  rw [List.getD_eq_getElem?_getD, List.getElem?_eq_getElem hk]
  exact List.all_eq_true.1 h _ (List.getElem_mem hk)
end Go.Proofs.Ytdfpceobfficfaa
