/- Law View Mat OpenS -/
import Derived.Test.YtjgfjfjboimgdaaGreatRows
import Derived.ProofKit
import Derived.OpenShut
import Derived.Deep.Slices
import Derived.Test.YtjgfjfjboimgdaaGreatY32
namespace Go.Proofs.YtjgfjfjboimgdaaGreat
set_option linter.unusedSimpArgs false
set_option linter.unusedVariables false
set_option linter.unusedSectionVars false
open Go Go.RowKit
set_option maxHeartbeats 8000000
set_option maxRecDepth 20000
section
open Go Go.RowKit Go.ChangeShapes Go.WideShapes Go.ChangeAt
def inI64 (z : Int) : Prop := -9223372036854775808 ≤ z ∧ z ≤ 9223372036854775807
section
variable {H : Type} {enc : TypeId × Value → H} {P : Program} {w : World} {base : Nat} {spare : Nat → Bool} {held : Bool}
theorem flat_int_one {t : TypeId} (hu : P.underlying t = some (.int .i64)) {fuel : Nat} {cs : List Value} {x : DataW H × List MemPlace} (h : DataW.trod enc P w base spare held fuel t cs = some x) :
    ∃ z, cs = ints [z] ∧ inI64 z := by
  obtain ⟨z, rfl, _, hw⟩ := DataW.trod_int hu h
  exact ⟨z, rfl, by simpa [Lit.wf, IntKind.min, IntKind.max, IntKind.signed, IntKind.bits, inI64] using hw⟩
end
def isStructT (P : Program) (t : Nat) : Bool := match P.underlying t with | some (.struct _) => true | _ => false
end
section
set_option maxHeartbeats 1000000
def MakesInts (w0 : World) (xs : List Int) (e : Ending) (w : World) : Prop := ∃ u, e = .returned u ∧ St w0 w [.row 3 1 u xs.length (ints xs)]
def filled (xs : List Int) (n k : Nat) : List Value := ints (xs.take k) ++ List.replicate (n - k) (.int .i64 0)
theorem filled_zero (xs : List Int) (n : Nat) : filled xs n 0 = List.replicate n (.int .i64 0) := by simp [filled, ints]
theorem filled_set (xs : List Int) (n k : Nat) (h : k < n) (hx : xs.length = n) : (filled xs n k).set k (.int .i64 (xs.getD k 0)) = filled xs n (k + 1) := by
  unfold filled
  have e1 : (ints (xs.take k)).length = k := by simp [ints]; omega
  rw [List.set_append_right _ _ (by omega), e1, Nat.sub_self]
  have e2 : n - k = (n - (k + 1)) + 1 := by omega
  have e3 : xs.getD k 0 = xs[k]'(by omega) := by simp [show k < xs.length by omega]
  rw [e2, List.replicate_succ, List.set_cons_zero, List.take_succ_eq_append_getElem (by omega), e3, ints_append]
  simp [ints]
theorem filled_full (xs : List Int) (n : Nat) (hx : xs.length = n) : filled xs n n = ints xs := by simp [filled, ints, ← hx]
theorem C_toIntS (v : Value) (xs : List Int) (w0 : World) (h : Ints w0 v xs) (hn : xs.length ≤ 1048576) :
    Calls Tryz.prog 99 #[v] w0 (MakesInts w0 xs) := by
  obtain ⟨hl, A, cap, rfl, hcap, hmax, hA⟩ := h
  obtain ⟨n, hx⟩ : ∃ n, xs.length = n := ⟨_, rfl⟩
  rw [hx] at hcap hA hn ⊢
  have HX := Lib.hid hx
  have HA := Lib.hid hA
  clear hl hA hx
  obtain ⟨L, HL, S⟩ := st_start w0; have F : True := trivial
  go_enter Tryz.func99, Tryz.ntmps99
  go_wp2_with (at_make; refine wpList_make rfl S _ _ _ rfl 3 _ 1 8 Tryz.underlying23 infoInt _ n rfl rfl rfl (by omega) (by simp only [maxLen]; omega) ?_; clear F S; intro g w L hM S; replace HL := qNm HL hM; clear hM; have F := qFc HL S)
  go_loopw [4] (fun i wr => ∃ (k : Nat) (L : List Ent), k ≤ n ∧ i = .int .i64 k ∧ Hid (L = [.row 3 1 (.slice (some ⟨g, 0, none⟩) n n) n (filled xs n k)]) ∧ St w0 wr L) (fun i _ => n - (intOf i).toNat)
  case atStart => exact ⟨0, L, Nat.zero_le _, rfl, (by rw [filled_zero, ← toList_madeCells_one]; exact HL), S⟩
  case round =>
    clear F HL S
    obtain ⟨k, L, hk, rfl, HL, S⟩ := hrel
    have F : True := trivial
    by_cases hlt : k < n
    · obtain ⟨b, off, rfl, hb, hc⟩ := HA.out (by omega)
      have c := (S.below.cell (p := ⟨b, off + k, none⟩) hb).trans (hc k _ (ints_getD xs k (by rw [HX.out]; exact hlt)))
      clear hc
      go_wp2_with (refine wpList_store_row rfl S _ _ _ rfl 0 _ _ _ _ _ _ _ (atOf HL rfl) rfl _ rfl (by kernel_rfl) rfl (by omega) ?_; clear F S; intro w L hM S; replace HL := qNm HL hM; clear hM; have F := qFc HL S)
      go_roundw
      case rel => exact ⟨k + 1, L, by omega, by go_num, by rw [← filled_set xs n k hlt HX.out]; exact HL, S⟩
      case measure => simp [intOf]; omega
    · obtain rfl : k = n := by omega
      go_wp2
      go_ret
      rw [HL.out, filled_full xs _ HX.out] at S
      exact ⟨_, rfl, by rw [HX.out]; exact S⟩
theorem C_eqIntS (u v : Value) (xs : List Int) (w0 : World) (hu : Ints w0 u xs) (hv : Ints w0 v xs) :
    Calls Tryz.prog 16 #[u, v] w0 fun e w' => e = .returned (.bool true) ∧ Below w0.heap.size w0 w' := by
  obtain ⟨_, A, cap, rfl, hcap, hmax, hA⟩ := hu
  obtain ⟨_, B, cap', rfl, hcap', hmax', hB⟩ := hv
  obtain ⟨n, hx⟩ : ∃ n, xs.length = n := ⟨_, rfl⟩
  rw [hx] at hcap hcap' hA hB ⊢
  have HX := Lib.hid hx
  have HA := Lib.hid hA
  have HB := Lib.hid hB
  clear hA hB hx
  unfold maxLen at hmax hmax'
  obtain ⟨L, HL, S⟩ := st_start w0; have F : True := trivial
  go_enter Tryz.func16, Tryz.ntmps16
  go_wp2
  go_loopw [5] (fun i wr => ∃ (k : Nat), k ≤ n ∧ i = .int .i64 k ∧ St w0 wr L) (fun i _ => n - (intOf i).toNat)
  case atStart => exact ⟨0, Nat.zero_le _, rfl, S⟩
  case round =>
    clear S
    obtain ⟨k, hk, rfl, S⟩ := hrel
    by_cases hlt : k < n
    · obtain ⟨b, off, rfl, hb, hc⟩ := HA.out (by omega)
      obtain ⟨b', off', rfl, hb', hc'⟩ := HB.out (by omega)
      have c1 := fun w' (S' : St w0 w' L) => (S'.below.cell (p := ⟨b, off + k, none⟩) hb).trans (hc k _ (ints_getD xs k (by rw [HX.out]; exact hlt)))
      have c2 := fun w' (S' : St w0 w' L) => (S'.below.cell (p := ⟨b', off' + k, none⟩) hb').trans (hc' k _ (ints_getD xs k (by rw [HX.out]; exact hlt)))
      clear hc hc'
      go_wp2_with fail
      have HL0 := HL; have F0 := F; refine wp_region_tree (S := fun w' => St w0 w' L) (qcs 0 9 .fin) (by kernel_rfl) (by kernel_rfl) (by kernel_rfl) (by intro c a d v w h; cases d <;> exact h) ?_; dsimp only [qcs, Nat.reduceAdd]; replace S := S.drew
      repeat (first | refine qCa ?_ | refine qAn ?_ | refine qSk ?_ | (refine tree_act rfl rfl ?_ tree_stop; intro K hK; go_wp2_with (first | fail); (refine qKo hK ?_; clear hK K)))
      refine tree_fin ?_
      go_wp2
      go_roundw
      case rel => exact ⟨k + 1, by omega, by go_num, S⟩
      case measure => simp [intOf]; omega
    · obtain rfl : k = n := by omega
      go_wp2
      go_ret
      exact ⟨rfl, S.below⟩
def marks (n : Nat) (k : Int) : List Int := tab n fun i => k + i
theorem marks_set (xs : List Int) (n i : Nat) (k : Int) (hx : xs.length = n) (hi : i < n) :
    (ints (tab i (fun j => k + j) ++ xs.drop i)).set i (.int .i64 (k + i)) = ints (tab (i + 1) (fun j => k + j) ++ xs.drop (i + 1)) := by
  rw [← ints_set, List.set_append_right _ _ (by rw [tab_length]; omega), tab_length, Nat.sub_self]
  congr 1
  have e : xs.drop i = xs[i] :: xs.drop (i + 1) := by rw [List.drop_eq_getElem_cons (by omega)]
  rw [e, List.set_cons_zero]
  simp [tab, List.range_succ]
theorem C_markIntS (L : List Ent) (p n : Nat) (v : Value) (xs : List Int) (k : Int) (w0 w1 : World) (S : St w0 w1 L) (h : At L p (.row 3 1 v n (ints xs))) (hk : 0 ≤ k ∧ k ≤ 1000000000) (hn : n ≤ 1000000000) :
    Calls Tryz.prog 20 #[v, .int .i64 k] w1 fun e w' => e = .returned (.int .i64 (k + n)) ∧ St w0 w' (L.set p (.row 3 1 v n (ints (marks n k)))) := by
  have hx : xs.length = n := by have := (Sees.row S h).1; rw [ints_length] at this; omega
  obtain ⟨k1, k2⟩ := hk
  rcases S.rowShape h with ⟨rfl, rfl⟩ | ⟨g, cap, rfl, hcap, hmax⟩
  · obtain rfl : xs = [] := List.length_eq_zero_iff.1 hx
    have e : L.set p (.row 3 1 (.slice none 0 0) 0 (ints (marks 0 k))) = L := by
      obtain ⟨h1, h2⟩ := List.getElem?_eq_some_iff.1 h.get
      rw [show ints (marks 0 k) = ints [] from rfl, ← h2, List.set_getElem_self]
    rw [e]
    have S0 := Lib.hid S
    clear S h e hx
    go_enter Tryz.func20, Tryz.ntmps20
    go_wp2
    go_loopw [5, 1] (fun i k' wr => i = .int .i64 0 ∧ k' = .int .i64 k ∧ wr = w1) (fun i _ _ => 0)
    case atStart => exact ⟨rfl, rfl, rfl⟩
    case round =>
      obtain ⟨rfl, rfl, rfl⟩ := hrel
      go_wp2
      go_ret
      exact ⟨by simp, S0.out⟩
  · have HX := Lib.hid hx
    unfold maxLen at hmax
    clear hx
    have S0 := Lib.hid S
    clear S
    go_enter Tryz.func20, Tryz.ntmps20
    go_wp2
    go_loopw [5, 1] (fun i k' wr => ∃ (j : Nat) (M : List Ent), j ≤ n ∧ i = .int .i64 j ∧ k' = .int .i64 (k + j) ∧ Hid (M = L.set p (.row 3 1 (.slice (some ⟨g, 0, none⟩) n cap) n (ints (tab j (fun q => k + q) ++ xs.drop j)))) ∧ St w0 wr M) (fun i _ _ => n - (intOf i).toNat)
    case atStart =>
      refine ⟨0, L, Nat.zero_le _, rfl, by simp, Lib.hid ?_, S0.out⟩
      obtain ⟨h1, h2⟩ := List.getElem?_eq_some_iff.1 h.get
      rw [show (tab 0 (fun q => k + (q : Int)) ++ xs.drop 0) = xs by simp [tab], ← h2, List.set_getElem_self]
    case round =>
      obtain ⟨j, M, hj, rfl, rfl, HM, S⟩ := hrel
      by_cases hlt : j < n
      · have hat : At M p (.row 3 1 (.slice (some ⟨g, 0, none⟩) n cap) n (ints (tab j (fun q => k + q) ++ xs.drop j))) := by rw [HM.out]; exact h.set
        go_wp2_with (refine wpList_store_row rfl S _ _ _ rfl p _ _ _ _ _ _ _ hat rfl (.int .i64 (k + j)) rfl (by kernel_rfl) rfl (by omega) ?_; intro w M' hM' T)
        go_roundw
        case rel =>
          refine ⟨j + 1, M', by omega, by go_num, by go_num, Lib.hid ?_, T⟩
          rw [hM', HM.out, List.set_set, marks_set xs n j k HX.out hlt]
        case measure => simp [intOf]; omega
      · obtain rfl : j = n := by omega
        go_wp2
        go_ret
        refine ⟨rfl, ?_⟩
        have e : tab j (fun q => k + (q : Int)) ++ xs.drop j = marks j k := by
          rw [List.drop_eq_nil_of_le (Nat.le_of_eq HX.out), List.append_nil]; rfl
        rw [HM.out, e] at S
        exact S
theorem C_heldIntS (n : Nat) (v : Value) (k : Int) (w0 : World) (h : Sees w0 1 v n (ints (marks n k))) (hk : 0 ≤ k ∧ k ≤ 1000000000) (hn : n ≤ 1000000000) :
    Calls Tryz.prog 22 #[v, .int .i64 k] w0 fun e w' => e = .returned (.int .i64 (k + n)) ∧ w0 = w' := by
  obtain ⟨k1, k2⟩ := hk
  obtain ⟨hl, A, cap, rfl, hcap, hmax, hA⟩ := h
  have HA := Lib.hid hA
  clear hl hA
  unfold maxLen at hmax
  go_enter Tryz.func22, Tryz.ntmps22
  go_wp2
  go_loop [5, 1] (fun i k' => ∃ (j : Nat), j ≤ n ∧ i = .int .i64 j ∧ k' = .int .i64 (k + j)) (fun i _ => n - (intOf i).toNat)
  case atStart => exact ⟨0, Nat.zero_le _, rfl, by simp⟩
  case round =>
    obtain ⟨j, hj, rfl, rfl⟩ := hrel
    by_cases hlt : j < n
    · obtain ⟨b, off, rfl, hb, hc⟩ := HA.out (by omega)
      have c1 := hc j _ (by rw [ints_getD _ _ (by rw [marks, tab_length]; exact hlt), marks, tab_getD _ _ _ hlt])
      clear hc
      go_wp2
      go_round
      case rel => exact ⟨j + 1, by omega, by go_num, by go_num⟩
      case measure => simp [intOf]; omega
    · obtain rfl : j = n := by omega
      go_wp2
      go_ret
      exact ⟨rfl, rfl⟩
end
section
theorem C_szIntS (A : Option Addr) (n cap : Nat) (k : Int) (w0 : World) (hn : n ≤ cap) (hc : cap ≤ maxLen) (hk : 0 ≤ k ∧ k ≤ 1000000000) :
    Calls Tryz.prog 87 #[.slice A n cap, .int .i64 k] w0 fun e w' => e = .returned (.int .i64 (if k - n < 0 then -1 else k - n)) ∧ w0 = w' := by
  obtain ⟨k1, k2⟩ := hk
  unfold maxLen at hc
  by_cases h : k - n < 0
  · rw [if_pos h]
    go_enter Tryz.func87, Tryz.ntmps87
    go_wp2
    go_ret
    exact ⟨rfl, rfl⟩
  · rw [if_neg h]
    go_enter Tryz.func87, Tryz.ntmps87
    go_wp2
    go_ret
    exact ⟨rfl, rfl⟩
theorem C_szMatrix (r c : Int) (A : Option Addr) (n cap : Nat) (k : Int) (w0 : World) (hn : n ≤ cap) (hc : cap ≤ maxLen) (hk : 0 ≤ k ∧ k ≤ 1000000000) :
    Calls Tryz.prog 40 #[.agg #[.int .i64 r, .int .i64 c, .slice A n cap], .int .i64 k] w0 fun e w' => e = .returned (.int .i64 (if k - n < 0 then -1 else k - n)) ∧ Below w0.heap.size w0 w' := by
  have CZ := fun w => C_szIntS A n cap k w hn hc hk
  unfold maxLen at hc
  obtain ⟨k1, k2⟩ := hk
  by_cases h : k - n < 0
  · simp only [if_pos h] at CZ ⊢
    obtain ⟨L, HL, S⟩ := st_start w0; have F : True := trivial
    go_enter Tryz.func40, Tryz.ntmps40
    go_wp2_with (first | (refine qbx HL S ?_; clear F S HL; intro g w L HL S F)  | (refine qst HL S 0 ?_; clear F S HL; intro w L HL S F) | (refine qst HL S 1 ?_; clear F S HL; intro w L HL S F) | (refine qst HL S 2 ?_; clear F S HL; intro w L HL S F) | (refine qst HL S 3 ?_; clear F S HL; intro w L HL S F)  | (go_at_call 87; refine qPu (CZ _) ?_))
    go_ret
    exact ⟨rfl, S.below⟩
  · simp only [if_neg h] at CZ ⊢
    obtain ⟨L, HL, S⟩ := st_start w0; have F : True := trivial
    go_enter Tryz.func40, Tryz.ntmps40
    go_wp2_with (first | (refine qbx HL S ?_; clear F S HL; intro g w L HL S F)  | (refine qst HL S 0 ?_; clear F S HL; intro w L HL S F) | (refine qst HL S 1 ?_; clear F S HL; intro w L HL S F) | (refine qst HL S 2 ?_; clear F S HL; intro w L HL S F) | (refine qst HL S 3 ?_; clear F S HL; intro w L HL S F)  | (go_at_call 87; refine qPu (CZ _) ?_))
    go_ret
    exact ⟨rfl, S.below⟩
theorem C_szMatrix' (r c : Int) (A : Option Addr) (n cap : Nat) (k q : Int) (w0 : World) (hn : n ≤ cap) (hc : cap ≤ maxLen) (hk : 0 ≤ k ∧ k ≤ 1000000000) (hq : (if k - n < 0 then -1 else k - n) = q) :
    Calls Tryz.prog 40 #[.agg #[.int .i64 r, .int .i64 c, .slice A n cap], .int .i64 k] w0 fun e w' => e = .returned (.int .i64 q) ∧ Below w0.heap.size w0 w' := hq ▸ C_szMatrix r c A n cap k w0 hn hc hk
theorem C_szSharedMatrix (r c r' c' : Int) (A B : Option Addr) (n cap m cap' : Nat) (k : Int) (w0 : World) (hn : n ≤ cap) (hc : cap ≤ maxLen) (hm : m ≤ cap') (hc' : cap' ≤ maxLen) (hk : 0 ≤ k ∧ k ≤ 1000000000) :
    Calls Tryz.prog 10 #[.agg #[.int .i64 r, .int .i64 c, .slice A n cap, .int .i64 r', .int .i64 c', .slice B m cap'], .int .i64 k] w0 fun e w' => e = .returned (.int .i64 (if k - n - m < 0 then -1 else k - n - m)) ∧ Below w0.heap.size w0 w' := by
  obtain ⟨k1, k2⟩ := hk
  have HN := Lib.hid hn
  have HC := Lib.hid hc
  have HM := Lib.hid hm
  have HC' := Lib.hid hc'
  clear hc hc'
  by_cases h : k - n < 0
  · have e : (if k - n - m < 0 then -1 else k - n - m) = -1 := if_pos (by omega)
    rw [e]
    clear e
    obtain ⟨L, HL, S⟩ := st_start w0; have F : True := trivial
    go_enter Tryz.func10, Tryz.ntmps10
    go_wp2_with (first | (refine qbx HL S ?_; clear F S HL; intro g w L HL S F)  | (refine qst HL S 0 ?_; clear F S HL; intro w L HL S F) | (refine qst HL S 1 ?_; clear F S HL; intro w L HL S F) | (refine qst HL S 2 ?_; clear F S HL; intro w L HL S F) | (refine qst HL S 3 ?_; clear F S HL; intro w L HL S F)  | (go_at_call 40; refine qGr S (C_szMatrix' _ _ _ _ _ _ _ _ HN.out HC.out ⟨by omega, by omega⟩ (by exact if_pos h)) ?_; clear S; intro w S))
    go_ret
    exact ⟨rfl, S.below⟩
  · obtain ⟨q, hq⟩ : ∃ q, k - n = q := ⟨_, rfl⟩
    have E1 := Lib.hid ((if_neg h).trans hq : (if k - n < 0 then (-1 : Int) else k - n) = q)
    rw [hq] at h ⊢
    have hq1 : q ≤ 1000000000 := by omega
    clear hq
    obtain ⟨z, hz⟩ : ∃ z, (if q - m < 0 then -1 else q - m) = z := ⟨_, rfl⟩
    rw [hz]
    have E2 := Lib.hid hz
    by_cases h2 : q - m < 0
    · rw [if_pos h2] at hz
      subst hz
      obtain ⟨L, HL, S⟩ := st_start w0; have F : True := trivial
      go_enter Tryz.func10, Tryz.ntmps10
      go_wp2_with (first | (refine qbx HL S ?_; clear F S HL; intro g w L HL S F)  | (refine qst HL S 0 ?_; clear F S HL; intro w L HL S F) | (refine qst HL S 1 ?_; clear F S HL; intro w L HL S F) | (refine qst HL S 2 ?_; clear F S HL; intro w L HL S F) | (refine qst HL S 3 ?_; clear F S HL; intro w L HL S F)  | (go_at_call 40; refine qGr S (C_szMatrix' _ _ _ _ _ _ _ _ (by first | exact HN.out | exact HM.out) (by first | exact HC.out | exact HC'.out) ⟨by omega, by omega⟩ (by first | exact E1.out | exact E2.out)) ?_; clear S; intro w S))
      go_ret
      exact ⟨rfl, S.below⟩
    · rw [if_neg h2] at hz
      have hz0 : 0 ≤ z := by omega
      clear hz
      obtain ⟨L, HL, S⟩ := st_start w0; have F : True := trivial
      go_enter Tryz.func10, Tryz.ntmps10
      go_wp2_with (first | (refine qbx HL S ?_; clear F S HL; intro g w L HL S F)  | (refine qst HL S 0 ?_; clear F S HL; intro w L HL S F) | (refine qst HL S 1 ?_; clear F S HL; intro w L HL S F) | (refine qst HL S 2 ?_; clear F S HL; intro w L HL S F) | (refine qst HL S 3 ?_; clear F S HL; intro w L HL S F)  | (go_at_call 40; refine qGr S (C_szMatrix' _ _ _ _ _ _ _ _ (by first | exact HN.out | exact HM.out) (by first | exact HC.out | exact HC'.out) ⟨by omega, by omega⟩ (by first | exact E1.out | exact E2.out)) ?_; clear S; intro w S))
      go_ret
      exact ⟨rfl, S.below⟩
theorem C_toMatrix (r c : Int) (xs : List Int) (v : Value) (w0 : World) (h : Ints w0 v xs) (hn : xs.length ≤ 1048576) : Calls Tryz.prog 50 #[.agg #[.int .i64 r, .int .i64 c, v]] w0 (MakesMx w0 r c xs) := by
  unfold MakesMx
  obtain ⟨L, HL, S⟩ := st_start w0; have F : True := trivial
  go_enter Tryz.func50, Tryz.ntmps50
  go_wp2_with (first | (refine qbx HL S ?_; clear F S HL; intro g w L HL S F) | (refine qal HL S zMx ?_; clear F S HL; intro g w L HL S F) | (refine qst HL S 0 ?_; clear F S HL; intro w L HL S F) | (refine qst HL S 1 ?_; clear F S HL; intro w L HL S F) | (refine qst HL S 2 ?_; clear F S HL; intro w L HL S F) | (refine qst HL S 3 ?_; clear F S HL; intro w L HL S F)  | (go_at_call 99; refine (C_toIntS _ xs _ (h.at_ S) hn).mono ?_; rintro e w ⟨u, rfl, T0⟩; have hX := qcl HL S T0; clear F S HL T0; obtain ⟨L, HL, S, F⟩ := hX; obtain ⟨A', cap', rfl, hcap', hmax'⟩ := qSl HL S 0))
  ((try simp only [Exit.inBlock, Exit.then]); refine ret1 rfl (resCell S HL 2 rfl rfl (by kernel_rfl)) rfl ?_)
  exact ⟨_, rfl, (by rw [HL.out] at S; exact S.sub (by first | exact .refl _ | exact .cons_cons _ (.refl _) | (refine .cons_cons _ ?_; repeat (first | exact .refl _ | refine .cons _ ?_)) | (repeat (first | exact .refl _ | exact .cons_cons _ (.refl _) | refine .cons _ ?_))))⟩
theorem C_toSharedMatrix (r c : Int) (xs : List Int) (r' c' : Int) (ys : List Int) (u v : Value) (w0 : World) (h : Ints w0 u xs) (h' : Ints w0 v ys) (hn : xs.length ≤ 1048576) (hn' : ys.length ≤ 1048576) :
    Calls Tryz.prog 13 #[.agg #[.int .i64 r, .int .i64 c, u, .int .i64 r', .int .i64 c', v]] w0 (MakesSMx w0 r c xs r' c' ys) := by
  have C1 := fun r c xs v w h hn => C_toMatrix r c xs v w h hn
  unfold MakesMx at C1
  unfold MakesSMx
  obtain ⟨L, HL, S⟩ := st_start w0; have F : True := trivial
  go_enter Tryz.func13, Tryz.ntmps13
  go_wp2_with (first | (refine qbx HL S ?_; clear F S HL; intro g w L HL S F) | (refine qal HL S zSMx ?_; clear F S HL; intro g w L HL S F) | (refine qst HL S 0 ?_; clear F S HL; intro w L HL S F) | (refine qst HL S 1 ?_; clear F S HL; intro w L HL S F) | (refine qst HL S 2 ?_; clear F S HL; intro w L HL S F) | (refine qst HL S 3 ?_; clear F S HL; intro w L HL S F)  | (go_at_call 50; refine (C1 _ _ _ _ _ (by first | exact h.at_ S | exact h'.at_ S) (by first | exact hn | exact hn')).mono ?_; rintro e w ⟨u, rfl, T0⟩; have hX := qcl HL S T0; clear F S HL T0; obtain ⟨L, HL, S, F⟩ := hX; obtain ⟨A', cap', rfl, hcap', hmax'⟩ := qSl HL S 0))
  ((try simp only [Exit.inBlock, Exit.then]); refine ret1 rfl (resCell S HL 3 rfl rfl (by kernel_rfl)) rfl ?_)
  exact ⟨_, _, rfl, (by rw [HL.out] at S; exact S.sub (by repeat (first | exact .refl _ | exact List.nil_sublist _ | apply List.Sublist.cons_cons | apply List.Sublist.cons)))⟩
theorem C_eqMatrix (r c : Int) (xs : List Int) (u v : Value) (w0 : World) (hu : Ints w0 u xs) (hv : Ints w0 v xs) :
    Calls Tryz.prog 59 #[.agg #[.int .i64 r, .int .i64 c, u], .agg #[.int .i64 r, .int .i64 c, v]] w0 fun e w' => e = .returned (.bool true) ∧ Below w0.heap.size w0 w' := by
  obtain ⟨L, HL, S⟩ := st_start w0; have F : True := trivial
  go_enter Tryz.func59, Tryz.ntmps59
  go_wp2_with (first | (refine qbx HL S ?_; clear F S HL; intro g w L HL S F)  | (refine qst HL S 0 ?_; clear F S HL; intro w L HL S F) | (refine qst HL S 1 ?_; clear F S HL; intro w L HL S F) | (refine qst HL S 2 ?_; clear F S HL; intro w L HL S F) | (refine qst HL S 3 ?_; clear F S HL; intro w L HL S F)  | (go_at_call 16; refine qGr S (C_eqIntS _ _ xs _ (hu.at_ S) (hv.at_ S)) ?_; clear S; intro w S))
  go_ret
  exact ⟨rfl, S.below⟩
theorem C_eqSharedMatrix (r c : Int) (xs : List Int) (r' c' : Int) (ys : List Int) (u v u' v' : Value) (w0 : World) (hu : Ints w0 u xs) (hv : Ints w0 v ys) (hu' : Ints w0 u' xs) (hv' : Ints w0 v' ys) :
    Calls Tryz.prog 15 #[.agg #[.int .i64 r, .int .i64 c, u, .int .i64 r', .int .i64 c', v], .agg #[.int .i64 r, .int .i64 c, u', .int .i64 r', .int .i64 c', v']] w0 fun e w' => e = .returned (.bool true) ∧ Below w0.heap.size w0 w' := by
  obtain ⟨L, HL, S⟩ := st_start w0; have F : True := trivial
  go_enter Tryz.func15, Tryz.ntmps15
  go_wp2_with (first | (refine qbx HL S ?_; clear F S HL; intro g w L HL S F)  | (refine qst HL S 0 ?_; clear F S HL; intro w L HL S F) | (refine qst HL S 1 ?_; clear F S HL; intro w L HL S F) | (refine qst HL S 2 ?_; clear F S HL; intro w L HL S F) | (refine qst HL S 3 ?_; clear F S HL; intro w L HL S F)  | (go_at_call 59; refine qGr S (C_eqMatrix _ _ _ _ _ _ (by first | exact hu.at_ S | exact hv.at_ S) (by first | exact hu'.at_ S | exact hv'.at_ S)) ?_; clear S; intro w S))
  go_ret
  exact ⟨rfl, S.below⟩
theorem C_markMatrix (R0 : List Ent) (p n : Nat) (r c : Int) (v : Value) (xs : List Int) (k : Int) (w0 w1 : World) (S : St w0 w1 R0) (h : At R0 p (.row 3 1 v n (ints xs))) (hk : 0 ≤ k ∧ k ≤ 1000000000) (hn : n ≤ 1000000000) :
    Calls Tryz.prog 60 #[.agg #[.int .i64 r, .int .i64 c, v], .int .i64 k] w1 fun e w' => e = .returned (.int .i64 (k + n)) ∧ St w0 w' (R0.set p (.row 3 1 v n (ints (marks n k)))) := by
  obtain ⟨L, HL⟩ : ∃ L, Hid (L = R0) := ⟨_, Lib.hid rfl⟩
  rw [← HL.out] at S
  have F : True := trivial
  go_enter Tryz.func60, Tryz.ntmps60
  go_wp2_with (first | (refine qbx HL S ?_; clear F S HL; intro g w L HL S F)  | (refine qst HL S 0 ?_; clear F S HL; intro w L HL S F) | (refine qst HL S 1 ?_; clear F S HL; intro w L HL S F) | (refine qst HL S 2 ?_; clear F S HL; intro w L HL S F) | (refine qst HL S 3 ?_; clear F S HL; intro w L HL S F)  | (go_at_call 20; refine (C_markIntS L (p + 1) _ _ xs _ w0 _ S (atOf HL (At.cons h)) hk hn).mono ?_; rintro e w ⟨rfl, T0⟩; obtain ⟨L, hM, T⟩ := st_name T0; clear T0; clear F S; replace HL := qNm HL hM; clear hM; have S := T; clear T; have F := qFc HL S))
  go_ret
  rw [HL.out] at S
  exact ⟨rfl, S.sub (.cons _ (.refl _))⟩
theorem C_markSharedMatrix (R0 : List Ent) (p q n m : Nat) (r c r' c' : Int) (u v : Value) (xs ys : List Int) (k : Int) (w0 w1 : World) (S : St w0 w1 R0) (h : At R0 p (.row 3 1 u n (ints xs))) (h' : At R0 q (.row 3 1 v m (ints ys))) (hpq : p ≠ q) (hk : 0 ≤ k ∧ k ≤ 100000000) (hn : n ≤ 100000000) (hm : m ≤ 100000000) :
    Calls Tryz.prog 19 #[.agg #[.int .i64 r, .int .i64 c, u, .int .i64 r', .int .i64 c', v], .int .i64 k] w1 fun e w' => e = .returned (.int .i64 (k + n + m)) ∧ St w0 w' ((R0.set p (.row 3 1 u n (ints (marks n k)))).set q (.row 3 1 v m (ints (marks m (k + n))))) := by
  obtain ⟨L, HL⟩ : ∃ L, Hid (L = R0) := ⟨_, Lib.hid rfl⟩
  rw [← HL.out] at S
  have F : True := trivial
  have h2 : At (R0.set p (.row 3 1 u n (ints (marks n k)))) q (.row 3 1 v m (ints ys)) := by
    unfold At; rw [List.getElem?_set_ne hpq]; exact h'
  have H1 := Lib.hid h
  have H2 := Lib.hid h2
  clear h h2 h'
  obtain ⟨k1, k2⟩ := hk
  go_enter Tryz.func19, Tryz.ntmps19
  go_wp2_with (first | (refine qbx HL S ?_; clear F S HL; intro g w L HL S F)  | (refine qst HL S 0 ?_; clear F S HL; intro w L HL S F) | (refine qst HL S 1 ?_; clear F S HL; intro w L HL S F) | (refine qst HL S 2 ?_; clear F S HL; intro w L HL S F) | (refine qst HL S 3 ?_; clear F S HL; intro w L HL S F)  | (go_at_call 60; refine (C_markMatrix L _ _ _ _ _ _ _ w0 _ S (by first | exact atOf HL (At.cons H1.out) | exact atOf HL (At.cons H2.out)) ⟨by omega, by omega⟩ (by omega)).mono ?_; rintro e w ⟨rfl, T0⟩; obtain ⟨L, hM, T⟩ := st_name T0; clear T0; clear F S; replace HL := qNm HL hM; clear hM; have S := T; clear T; have F := qFc HL S))
  go_ret
  rw [HL.out] at S
  exact ⟨rfl, S.sub (.cons _ (.refl _))⟩
theorem C_heldMatrix (n : Nat) (r c : Int) (v : Value) (k : Int) (w0 : World) (h : Sees w0 1 v n (ints (marks n k))) (hk : 0 ≤ k ∧ k ≤ 1000000000) (hn : n ≤ 1000000000) :
    Calls Tryz.prog 61 #[.agg #[.int .i64 r, .int .i64 c, v], .int .i64 k] w0 fun e w' => e = .returned (.int .i64 (k + n)) ∧ Below w0.heap.size w0 w' := by
  obtain ⟨k1, k2⟩ := hk
  obtain ⟨L, HL, S⟩ := st_start w0; have F : True := trivial
  go_enter Tryz.func61, Tryz.ntmps61
  go_wp2_with (first | (refine qbx HL S ?_; clear F S HL; intro g w L HL S F)  | (refine qst HL S 0 ?_; clear F S HL; intro w L HL S F) | (refine qst HL S 1 ?_; clear F S HL; intro w L HL S F) | (refine qst HL S 2 ?_; clear F S HL; intro w L HL S F) | (refine qst HL S 3 ?_; clear F S HL; intro w L HL S F)  | (go_at_call 22; refine qPu (C_heldIntS n _ _ _ (h.at_ S) ⟨by omega, by omega⟩ hn) ?_))
  go_ret
  exact ⟨rfl, S.below⟩
theorem C_heldSharedMatrix (n m : Nat) (r c r' c' : Int) (u v : Value) (k : Int) (w0 : World) (h : Sees w0 1 u n (ints (marks n k))) (h' : Sees w0 1 v m (ints (marks m (k + n)))) (hk : 0 ≤ k ∧ k ≤ 100000000) (hn : n ≤ 100000000) (hm : m ≤ 100000000) :
    Calls Tryz.prog 21 #[.agg #[.int .i64 r, .int .i64 c, u, .int .i64 r', .int .i64 c', v], .int .i64 k] w0 fun e w' => e = .returned (.int .i64 (k + n + m)) ∧ Below w0.heap.size w0 w' := by
  obtain ⟨k1, k2⟩ := hk
  obtain ⟨L, HL, S⟩ := st_start w0; have F : True := trivial
  go_enter Tryz.func21, Tryz.ntmps21
  go_wp2_with (first | (refine qbx HL S ?_; clear F S HL; intro g w L HL S F)  | (refine qst HL S 0 ?_; clear F S HL; intro w L HL S F) | (refine qst HL S 1 ?_; clear F S HL; intro w L HL S F) | (refine qst HL S 2 ?_; clear F S HL; intro w L HL S F) | (refine qst HL S 3 ?_; clear F S HL; intro w L HL S F)  | (go_at_call 61; refine qGr S (C_heldMatrix _ _ _ _ _ _ (by first | exact h.at_ S | exact h'.at_ S) ⟨by omega, by omega⟩ (by omega)) ?_; clear S; intro w S))
  go_ret
  exact ⟨rfl, S.below⟩
end
section
open Go Go.RowKit Go.ChangeShapes Go.WideShapes Go.ChangeAt
def Reads (w : World) : Shp → List Value → Prop
  | .int, cs => ∃ z, cs = ints [z] ∧ inI64 z
  | .slice n e, cs => ∃ A len cap, cs = [.slice A len cap] ∧ len ≤ cap ∧ cap ≤ maxLen ∧ (0 < len → ∃ b off, A = some ⟨b, off, none⟩ ∧ b < w.heap.size ∧
      ∀ q, q < len → ∃ cs', cs'.length = n ∧ (∀ j u, cs'[j]? = some u → w.cell? ⟨b, off + q * n + j, none⟩ = some u) ∧ Reads w e cs')
  | .nil, cs => cs = []
  | .cons s r, cs => ∃ a b, cs = a ++ b ∧ Reads w s a ∧ Reads w r b
def shapeFields (P : Program) (g : TypeId → Option Shp) : List Field → Nat → Option Shp
  | [], _ => some .nil
  | f :: r, off => if f.offset = off then match g f.type with
      | some s => if P.cellsOf f.type = s.size then (shapeFields P g r (off + s.size)).map (Shp.cons s) else none
      | none => none
    else none
def shapeOf (P : Program) : Nat → TypeId → Option Shp
  | 0, _ => none
  | k + 1, t => match P.underlying t with
    | some (.int .i64) => some .int
    | some (.slice e) => match shapeOf P k e with
      | some s => if P.cellsOf e = s.size ∧ 0 < s.size then some (.slice s.size s) else none
      | none => none
    | some (.struct fs) => shapeFields P (shapeOf P k) fs.toList 0
    | _ => none
section
variable {H : Type} {enc : TypeId × Value → H} {P : Program} {w : World} {spare : Nat → Bool} {held : Bool}
theorem reads_of : ∀ (k : Nat) (t : TypeId) (s : Shp), shapeOf P k t = some s → ∀ {fuel : Nat} {cs : List Value} {x : DataW H × List MemPlace}, DataW.trod enc P w 0 spare held fuel t cs = some x → P.cellsOf t = s.size →
    Reads w s cs ∧ cs.length = s.size
  | 0, _, _, h0, _, _, _, _, _ => by simp [shapeOf] at h0
  | k + 1, t, s, h0, fuel, cs, x, h, hn => by
    unfold shapeOf at h0
    split at h0
    · rename_i hu
      injection h0 with h0
      subst h0
      obtain ⟨z, rfl, hz⟩ := flat_int_one hu h
      exact ⟨⟨z, rfl, hz⟩, rfl⟩
    · rename_i e hu
      split at h0
      rotate_left
      · cases h0
      rename_i s' hs'
      split at h0
      rotate_left
      · cases h0
      rename_i hc
      injection h0 with h0
      subst h0
      obtain ⟨hc, hpos⟩ := hc
      rcases Go.Deep.open_slice hu h with ⟨h0, _⟩ | ⟨a, len, cap, m, k', D, Pl, h0, _, hl, hm, hmm, _, hi⟩
      · subst h0
        exact ⟨⟨none, 0, 0, rfl, Nat.le_refl _, by simp [maxLen], fun h => absurd h (by omega)⟩, rfl⟩
      · subst h0
        refine ⟨⟨some a, len, cap, rfl, hl, hm, fun hlen => ?_⟩, rfl⟩
        have hml : len ≤ m := by rw [hmm]; split <;> omega
        have key : ∀ q, q < len → ∃ cs', cs'.length = s'.size ∧ (∀ j u, cs'[j]? = some u → w.cell? (a.add (q * s'.size + j)) = some u) ∧ Reads w s' cs' := by
          intro q hq
          obtain ⟨cs', hcs, ht⟩ := hi q (by omega)
          obtain ⟨hr, hlen'⟩ := reads_of k e s' hs' ht hc
          obtain ⟨_, _, hcell⟩ := World.cells?_some hcs
          refine ⟨cs', hlen', fun j u hu => ?_, hr⟩
          have hj : j < s'.size := by rw [← hlen']; exact (List.getElem?_eq_some_iff.1 hu).1
          have := hcell j (by rw [hc]; exact hj)
          rw [addr_add_add, hc, hu] at this
          exact this
        obtain ⟨cs0, hl0, hc0, _⟩ := key 0 hlen
        have h00 := hc0 0 _ (List.getElem?_eq_getElem (by omega))
        have e0 : a.add (0 * s'.size + 0) = a := by unfold Addr.add; simp
        rw [e0] at h00
        have hsp := cell_spot h00
        obtain ⟨b, off, spot⟩ := a
        simp only at hsp
        subst hsp
        refine ⟨b, off, rfl, World.block_lt_of_cell? w _ h00, fun q hq => ?_⟩
        obtain ⟨cs', h1, h2, h3⟩ := key q hq
        refine ⟨cs', h1, fun j u hu => ?_, h3⟩
        have := h2 j u hu
        have e : (⟨b, off, none⟩ : Addr).add (q * s'.size + j) = ⟨b, off + q * s'.size + j, none⟩ := by unfold Addr.add; split <;> simp_all [Nat.add_assoc]
        rwa [e] at this
    · rename_i fs hu
      obtain ⟨ys, m, hm, _, hlen, hyl, hf⟩ := DataW.trod_struct hu h
      have key : ∀ (l : List Field) (off : Nat) (s : Shp), shapeFields P (shapeOf P k) l off = some s → (∀ f ∈ l, ∃ y, DataW.trod enc P w 0 spare held m f.type ((cs.drop f.offset).take (P.cellsOf f.type)) = some y) →
          Reads w s ((cs.drop off).take s.size) ∧ ((cs.drop off).take s.size).length = s.size := by
        intro l
        induction l with
        | nil =>
          intro off s h1 _
          simp only [shapeFields, Option.some.injEq] at h1
          subst h1
          exact ⟨by simp [Reads, Shp.size], by simp [Shp.size]⟩
        | cons f r ih =>
          intro off s h1 h2
          unfold shapeFields at h1
          split at h1
          · rename_i hoff
            split at h1
            · rename_i q hq
              split at h1
              · rename_i hc
                obtain ⟨s2, hs2, rfl⟩ := Option.map_eq_some_iff.1 h1
                obtain ⟨y, hy⟩ := h2 f List.mem_cons_self
                obtain ⟨hr, hl⟩ := reads_of k f.type q hq hy hc
                obtain ⟨hr2, hl2⟩ := ih (off + q.size) s2 hs2 (fun g hg => h2 g (List.mem_cons_of_mem _ hg))
                have e : (cs.drop off).take (q.size + s2.size) = (cs.drop off).take q.size ++ (cs.drop (off + q.size)).take s2.size := by
                  rw [List.take_add, List.drop_drop]
                rw [hoff, hc] at hr hl
                refine ⟨⟨_, _, e, hr, hr2⟩, ?_⟩
                show ((cs.drop off).take (q.size + s2.size)).length = q.size + s2.size
                rw [e, List.length_append, hl, hl2]
              · cases h1
            · cases h1
          · cases h1
      obtain ⟨h1, h2⟩ := key fs.toList 0 s h0 (fun f hf0 => by
        obtain ⟨j, hj⟩ := List.mem_iff_getElem?.1 hf0
        have hj' : fs[j]? = some f := by simpa using hj
        have h1 := hf j f hj'
        have hjl : j < ys.length := by
          have := (Array.getElem?_eq_some_iff.1 hj').1
          omega
        exact ⟨ys[j], h1.trans (List.getElem?_eq_getElem hjl)⟩)
      have hcs : cs.length = s.size := by rw [hlen]; exact hn
      rw [List.drop_zero, ← hcs, List.take_length] at h1
      exact ⟨h1, hcs⟩
    · cases h0
theorem reads_ints {cs : List Value} (h : Reads w (.slice 1 .int) cs) : ∃ v xs, cs = [v] ∧ Ints w v xs := by
  obtain ⟨A, len, cap, rfl, h1, h2, h3⟩ := h
  rcases Nat.eq_zero_or_pos len with rfl | hlen
  · exact ⟨_, [], rfl, rfl, A, cap, rfl, h1, h2, fun h => absurd h (by simp)⟩
  · obtain ⟨b, off, rfl, hb, hq⟩ := h3 hlen
    have key : ∀ q, q ≤ len → ∃ xs : List Int, xs.length = q ∧ ∀ j u, (ints xs)[j]? = some u → w.cell? ⟨b, off + j, none⟩ = some u := by
      intro q
      induction q with
      | zero => exact fun _ => ⟨[], rfl, fun j u hu => by simp [ints] at hu⟩
      | succ q ih =>
        intro hle
        obtain ⟨xs, hl, hc⟩ := ih (by omega)
        obtain ⟨cs', _, hc', z, rfl, _⟩ := hq q (by omega)
        refine ⟨xs ++ [z], by simp [hl], fun j u hu => ?_⟩
        rw [ints_append] at hu
        rcases Nat.lt_or_ge j (ints xs).length with hj | hj
        · rw [List.getElem?_append_left hj] at hu
          exact hc j u hu
        · rw [List.getElem?_append_right hj, ints_length, hl] at hu
          rw [ints_length, hl] at hj
          have hj0 : j - q < 1 := (List.getElem?_eq_some_iff.1 hu).1
          obtain rfl : j = q := by omega
          have := hc' 0 u (by simpa using hu)
          simpa using this
    obtain ⟨xs, hl, hc⟩ := key len (Nat.le_refl _)
    exact ⟨_, xs, rfl, by rw [ints_length]; omega, some ⟨b, off, none⟩, cap, by rw [hl], by omega, h2, fun _ => ⟨b, off, rfl, hb, hc⟩⟩
def mxShp : Shp := .cons .int (.cons .int (.cons (.slice 1 .int) .nil))
def smxShp : Shp := .cons mxShp (.cons mxShp .nil)
theorem reads_mx {cs : List Value} (h : Reads w mxShp cs) : ∃ r c v xs, cs = [.int .i64 r, .int .i64 c, v] ∧ Ints w v xs := by
  obtain ⟨_, _, rfl, ⟨r, rfl, _⟩, _, _, rfl, ⟨c, rfl, _⟩, _, _, rfl, h, h0⟩ := h
  obtain ⟨v, xs, rfl, hv⟩ := reads_ints h
  cases h0
  exact ⟨r, c, v, xs, rfl, hv⟩
theorem reads_smx {cs : List Value} (h : Reads w smxShp cs) : ∃ r c u xs r' c' v ys, cs = [.int .i64 r, .int .i64 c, u, .int .i64 r', .int .i64 c', v] ∧ Ints w u xs ∧ Ints w v ys := by
  obtain ⟨_, _, rfl, h1, _, _, rfl, h2, h0⟩ := h
  obtain ⟨r, c, u, xs, rfl, hu⟩ := reads_mx h1
  obtain ⟨r', c', v, ys, rfl, hv⟩ := reads_mx h2
  cases h0
  exact ⟨r, c, u, xs, r', c', v, ys, rfl, hu, hv⟩
def isShape (P : Program) (t : Nat) (s : Shp) : Bool := P.cellsOf t == s.size && decide (shapeOf P 12 t = some s)
theorem shape_of {r : Reach} {b0 t : Nat} {s : Shp} {v : Value} {d : DataW H} {p : List MemPlace} (hk : (isShape P t s && isStructT P t) = true) (hv : Value.okWide P w r b0 t v) (h : DataW.Trod enc P w 0 spare held t v d p) :
    ∃ cs : List Value, v = .agg cs.toArray ∧ Reads w s cs := by
  simp only [isShape, Bool.and_eq_true, beq_iff_eq, decide_eq_true_eq] at hk
  obtain ⟨⟨hc, hf⟩, hs⟩ := hk
  unfold isStructT at hs
  split at hs
  · rename_i fs hu
    obtain ⟨cs, rfl, _⟩ := okWide_struct hu hv
    obtain ⟨fuel, hf'⟩ := h
    exact ⟨_, rfl, (reads_of 12 t s hf hf' hc).1⟩
  · cases hs
theorem open_smx {r : Reach} {b0 t : Nat} {v : Value} {d : DataW H} {p : List MemPlace} (hk : (isShape P t smxShp && isStructT P t) = true) (hv : Value.okWide P w r b0 t v) (h : DataW.Trod enc P w 0 spare held t v d p) :
    ∃ r c u xs r' c' u' ys, v = .agg #[.int .i64 r, .int .i64 c, u, .int .i64 r', .int .i64 c', u'] ∧ Ints w u xs ∧ Ints w u' ys := by
  obtain ⟨cs, rfl, hr⟩ := shape_of hk hv h
  obtain ⟨r, c, u, xs, r', c', v, ys, rfl, h1, h2⟩ := reads_smx hr
  exact ⟨r, c, u, xs, r', c', v, ys, rfl, h1, h2⟩
end
end
end Go.Proofs.YtjgfjfjboimgdaaGreat
