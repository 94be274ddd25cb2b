/-
  Proved here: sides follow layers: two parts of a network follow each other.
-/
import Derived.Test.YtiiijfhacaomdaaHead
import Derived.Test.YtiiijfhacaomdaaDrawP
import Derived.Test.YtiiijfhacaomdaaDrawNd
import Derived.Test.YtiiijfhacaomdaaBytes
namespace Go.Proofs.Ytiiijfhacaomdaa
set_option linter.unusedSimpArgs false
set_option linter.unusedVariables false
set_option linter.unusedSectionVars false
open Go Go.RowKit Go.ChangeShapes Go.WideShapes Go.ChangeAt
set_option maxHeartbeats 8000000 in
set_option maxRecDepth 20000 in
theorem L0_FnNetSides (CD : ∀ v w, Bytes w v → Calls Try.prog 9 #[v] w (DrawnNet w)) (v : Value) (w0 : World) (h : Bytes w0 v) :
    Calls Try.prog 3 #[v] w0 fun e w' => e = .returned (.bool true) ∧ Below w0.heap.size w0 w' := by
  have HB0 := Lib.hid h
  obtain ⟨A, n, cap, rfl, hcap, hmax, _⟩ := h
  unfold maxLen at hmax
  by_cases hbig : n > 1048576
  · obtain ⟨L, HL, S⟩ := st_start w0; have F : True := trivial
    go_enter Try.func3, Try.ntmps3
    go_wp2_with (first | (refine wpList_box rfl S _ _ rfl ?_; intro g w L hM T; clear F S; (try rw [HL.out] at hM); clear HL; (try simp [Act.put, Act.eval, Value.cells, splice] at hM); have HL := Lib.hid hM; clear hM; have S := T; clear T; have F := factsAll HL S; (try simp only [factsOf, cellsFrom, and_true, true_and, Nat.reduceAdd] at F))  | (refine wpList_store_box rfl S _ _ _ rfl 0 _ _ _ _ (atOf HL rfl) rfl _ rfl (by kernel_rfl) rfl rfl ?_; intro w L hM T; clear F S; (try rw [HL.out] at hM); clear HL; (try simp [Act.put, Act.eval, Value.cells, splice] at hM); have HL := Lib.hid hM; clear hM; have S := T; clear T; have F := factsAll HL S; (try simp only [factsOf, cellsFrom, and_true, true_and, Nat.reduceAdd] at F)) | (refine wpList_store_box rfl S _ _ _ rfl 1 _ _ _ _ (atOf HL rfl) rfl _ rfl (by kernel_rfl) rfl rfl ?_; intro w L hM T; clear F S; (try rw [HL.out] at hM); clear HL; (try simp [Act.put, Act.eval, Value.cells, splice] at hM); have HL := Lib.hid hM; clear hM; have S := T; clear T; have F := factsAll HL S; (try simp only [factsOf, cellsFrom, and_true, true_and, Nat.reduceAdd] at F)) | (refine wpList_store_box rfl S _ _ _ rfl 2 _ _ _ _ (atOf HL rfl) rfl _ rfl (by kernel_rfl) rfl rfl ?_; intro w L hM T; clear F S; (try rw [HL.out] at hM); clear HL; (try simp [Act.put, Act.eval, Value.cells, splice] at hM); have HL := Lib.hid hM; clear hM; have S := T; clear T; have F := factsAll HL S; (try simp only [factsOf, cellsFrom, and_true, true_and, Nat.reduceAdd] at F)) | (refine wpList_store_box rfl S _ _ _ rfl 3 _ _ _ _ (atOf HL rfl) rfl _ rfl (by kernel_rfl) rfl rfl ?_; intro w L hM T; clear F S; (try rw [HL.out] at hM); clear HL; (try simp [Act.put, Act.eval, Value.cells, splice] at hM); have HL := Lib.hid hM; clear hM; have S := T; clear T; have F := factsAll HL S; (try simp only [factsOf, cellsFrom, and_true, true_and, Nat.reduceAdd] at F))  )
    go_ret
    exact ⟨rfl, S.below⟩
  obtain ⟨L, HL, S⟩ := st_start w0; have F : True := trivial
  go_enter Try.func3, Try.ntmps3
  go_upto_region 4 with (first | (go_at_call 9; refine (CD _ _ (HB0.out.below S.below)).mono ?_; rintro e w1 ⟨u, ls, r, c, rfl, hs, hsh, hb⟩; have HBB := Lib.hid (S.below.trans (hb.mono S.below.size)); clear S HL F hb; obtain ⟨L, HL, S⟩ := st_start w1; have F : True := trivial))
  have HS := Lib.hid hs
  obtain ⟨B, cb, rfl, hcb, hmb, hA⟩ := hs
  obtain ⟨z, hz⟩ : ∃ z, netSides ls r c = z := ⟨_, rfl⟩
  have HZ := Lib.hid hz
  have CS := fun v w h => C_spec_NetSides v ls r c z w h HZ.out
  have CI := fun v w h => C_impl_NetSides v ls r c z w h HZ.out
  cases z with
  | none =>
    unfold sidesRes at CS CI
    clear hA hz
    go_wp2_with (first | (refine wpList_box rfl S _ _ rfl ?_; intro g w L hM T; clear F S; (try rw [HL.out] at hM); clear HL; (try simp [Act.put, Act.eval, Value.cells, splice] at hM); have HL := Lib.hid hM; clear hM; have S := T; clear T; have F := factsAll HL S; (try simp only [factsOf, cellsFrom, and_true, true_and, Nat.reduceAdd] at F))  | (refine wpList_store_box rfl S _ _ _ rfl 0 _ _ _ _ (atOf HL rfl) rfl _ rfl (by kernel_rfl) rfl rfl ?_; intro w L hM T; clear F S; (try rw [HL.out] at hM); clear HL; (try simp [Act.put, Act.eval, Value.cells, splice] at hM); have HL := Lib.hid hM; clear hM; have S := T; clear T; have F := factsAll HL S; (try simp only [factsOf, cellsFrom, and_true, true_and, Nat.reduceAdd] at F)) | (refine wpList_store_box rfl S _ _ _ rfl 1 _ _ _ _ (atOf HL rfl) rfl _ rfl (by kernel_rfl) rfl rfl ?_; intro w L hM T; clear F S; (try rw [HL.out] at hM); clear HL; (try simp [Act.put, Act.eval, Value.cells, splice] at hM); have HL := Lib.hid hM; clear hM; have S := T; clear T; have F := factsAll HL S; (try simp only [factsOf, cellsFrom, and_true, true_and, Nat.reduceAdd] at F)) | (refine wpList_store_box rfl S _ _ _ rfl 2 _ _ _ _ (atOf HL rfl) rfl _ rfl (by kernel_rfl) rfl rfl ?_; intro w L hM T; clear F S; (try rw [HL.out] at hM); clear HL; (try simp [Act.put, Act.eval, Value.cells, splice] at hM); have HL := Lib.hid hM; clear hM; have S := T; clear T; have F := factsAll HL S; (try simp only [factsOf, cellsFrom, and_true, true_and, Nat.reduceAdd] at F)) | (refine wpList_store_box rfl S _ _ _ rfl 3 _ _ _ _ (atOf HL rfl) rfl _ rfl (by kernel_rfl) rfl rfl ?_; intro w L hM T; clear F S; (try rw [HL.out] at hM); clear HL; (try simp [Act.put, Act.eval, Value.cells, splice] at hM); have HL := Lib.hid hM; clear hM; have S := T; clear T; have F := factsAll HL S; (try simp only [factsOf, cellsFrom, and_true, true_and, Nat.reduceAdd] at F))  | (go_at_call 10; refine (CI _ _ (HS.out.at_ S)).mono ?_; rintro e w ⟨rfl, hb⟩; replace S := S.grow hb; clear hb) | (go_at_call 11; refine (CS _ _ (HS.out.at_ S)).mono ?_; rintro e w ⟨rfl, hb⟩; replace S := S.grow hb; clear hb) | (go_at_call 12; refine (C_alive _).mono ?_; rintro e w' ⟨rfl, rfl⟩))
    go_ret
    exact ⟨rfl, HBB.out.trans (S.below.mono HBB.out.size)⟩
  | some x =>
    obtain ⟨x1, x2⟩ := x
    unfold sidesRes at CS CI
    dsimp only at CS CI
    obtain ⟨m, hm⟩ : ∃ m, ls.length = m := ⟨_, rfl⟩
    obtain ⟨q, hq⟩ : ∃ q, m / 2 = q := ⟨_, rfl⟩
    have h4 := (netSides_some hz).1
    obtain ⟨a, b, e1, e2, _⟩ := net_parts hz q (by omega)
    have C1 := fun v w h => C_impl_NetSides v (ls.take q) r c _ w h e1
    have C2 := fun v w h => C_impl_NetSides v (ls.drop q) a b _ w h e2
    unfold sidesRes at C1 C2
    dsimp only at C1 C2
    obtain ⟨⟨x3, x4⟩, x5, x6⟩ := sides_bd hz
    rw [hm] at hcb HS h4 hA hsh ⊢
    have hqm : q ≤ m := by omega
    have hq2 : 2 * q ≤ m := by omega
    have hqd : (m : Int).tdiv 2 = (q : Int) := by rw [Int.tdiv_eq_ediv_of_nonneg (by omega), ← hq]; rfl
    have HF := Lib.hid (HS.out.front q hqm)
    unfold maxLen at hmb
    clear hz e1 e2 hm hq
    go_upto_region 11 with (first | (go_at_call 10; refine (CI _ _ (HS.out.at_ S)).mono ?_; rintro e w ⟨rfl, hb⟩; replace S := S.grow hb; clear hb) | (go_at_call 11; refine (CS _ _ (HS.out.at_ S)).mono ?_; rintro e w ⟨rfl, hb⟩; replace S := S.grow hb; clear hb))
    rcases hsh with ⟨he, hl0⟩ | ⟨gl, cl, he⟩
    · simp only [Value.slice.injEq] at he
      obtain ⟨rfl, rfl, rfl⟩ := he
      obtain rfl : q = 0 := by omega
      have HR : Hid (SeesLs w1 (.slice none 0 0) (ls.drop 0)) := Lib.hid (by rw [List.drop_zero]; exact HS.out)
      clear hA hl0
      go_upto_region 12 with (first | (go_at_call 10; refine (C1 _ _ (by exact HF.out.at_ S)).mono ?_; rintro e w ⟨rfl, hb⟩; replace S := S.grow hb; clear hb))
      go_wp2_with (first | (go_at_call 10; refine (C2 _ _ (by exact HR.out.at_ S)).mono ?_; rintro e w ⟨rfl, hb⟩; replace S := S.grow hb; clear hb))
      all_goals
        go_ret
        exact ⟨rfl, HBB.out.trans (S.below.mono HBB.out.size)⟩
    · simp only [Value.slice.injEq] at he
      obtain ⟨rfl, _, rfl⟩ := he
      clear hA
      rcases Nat.eq_zero_or_pos m with hm0 | hm0
      · obtain rfl : q = 0 := by omega
        subst hm0
        have HR : Hid (SeesLs w1 (.slice (some ⟨gl, 0, none⟩) 0 cb) (ls.drop 0)) := Lib.hid (by rw [List.drop_zero]; exact HS.out)
        by_cases hc0 : cb = 0
        · subst hc0
          go_upto_region 12 with (first | (go_at_call 10; refine (C1 _ _ (by exact HF.out.at_ S)).mono ?_; rintro e w ⟨rfl, hb⟩; replace S := S.grow hb; clear hb))
          go_wp2_with (first | (go_at_call 10; refine (C2 _ _ (by exact HR.out.at_ S)).mono ?_; rintro e w ⟨rfl, hb⟩; replace S := S.grow hb; clear hb))
          go_ret
          exact ⟨rfl, HBB.out.trans (S.below.mono HBB.out.size)⟩
        · go_upto_region 12 with (first | (go_at_call 10; refine (C1 _ _ (by exact HF.out.at_ S)).mono ?_; rintro e w ⟨rfl, hb⟩; replace S := S.grow hb; clear hb))
          go_wp2_with (first | (go_at_call 10; refine (C2 _ _ (by exact HR.out.at_ S)).mono ?_; rintro e w ⟨rfl, hb⟩; replace S := S.grow hb; clear hb))
          go_ret
          exact ⟨rfl, HBB.out.trans (S.below.mono HBB.out.size)⟩
      · have hne : ¬ cb = q := by omega
        have HR : Hid (SeesLs w1 (.slice (some ⟨gl, q * 2, none⟩) (m - q) (cb - q)) (ls.drop q)) := Lib.hid (HS.out.rest q (m - q) (by omega) (q * 2) (cb - q) (by omega) ⟨by omega, by omega⟩)
        go_upto_region 12 with (first | (go_at_call 10; refine (C1 _ _ (by exact HF.out.at_ S)).mono ?_; rintro e w ⟨rfl, hb⟩; replace S := S.grow hb; clear hb))
        go_wp2_with (first | (go_at_call 10; refine (C2 _ _ (by exact HR.out.at_ S)).mono ?_; rintro e w ⟨rfl, hb⟩; replace S := S.grow hb; clear hb))
        go_ret
        exact ⟨rfl, HBB.out.trans (S.below.mono HBB.out.size)⟩
theorem L_FnNetSides (v : Value) (w0 : World) (h : Bytes w0 v) : Calls Try.prog 3 #[v] w0 fun e w' => e = .returned (.bool true) ∧ Below w0.heap.size w0 w' :=
  L0_FnNetSides (fun v w h => C_DrawNetSides v w h) v w0 h

set_option maxRecDepth 100000 in
theorem FnNetSides_lifted (os : Os) (started : os.Started) (H : Type) (enc : TypeId × Value → H) :
    ReturnsInHanded {} Try.checked os 3 .any (Rows.fnNetSidesSpec.pre6 enc Try.prog Try.f3 Rows.fnNetSidesRow.domain false) (Rows.fnNetSidesSpec.post enc Try.prog Try.f3 false true false false) := by
  refine returnsInHanded_of_change (C := Try.checked) Try.ownKnob_ started (by kernel_rfl) Try.func3
    (ChangeSpec.witness6 (enc := enc) (C := Try.checked) false ⟨#[], #[.slice none 0 0], []⟩ 8 (by kernel_rfl) (by kernel_rfl) (by kernel_rfl) (by kernel_rfl)) ?_
  intro W base args ds gs before hval0 hW _ _
  have hval : ∀ (j : Nat) t v, Try.f3.params[j]? = some t → args[j]? = some v → Value.okWide Try.prog W .any base t v := hval0
  have hW' := hW
  obtain ⟨p, q, hA0, hV, rfl, _, _⟩ := hW
  have hA : DataW.TrodAll enc Try.prog W 0 (fun _ => true) true Try.f3.params.toList args.toList ds p := hA0
  rw [Try.params3] at hA hval
  obtain ⟨v0, vs0, d0, ds0, p0, q0, hargs, rfl, rfl, h0, r0⟩ := trodAll_cons hA
  obtain ⟨rfl, rfl, rfl⟩ := trodAll_nil r0
  obtain rfl : args = #[v0] := by cases args; simp_all
  obtain ⟨rfl, rfl⟩ := trodVars_none hV
  clear hA0 hval0
  have s0 := open_bytes (e := 5) (by kernel_rfl) (hval 0 _ v0 rfl rfl) h0
  refine (L_FnNetSides _ W s0).mono fun e W' ⟨he, hb⟩ => ⟨_, he, ?_⟩
  exact law_post 4 Try.underlying4 Try.laidOut_ (by kernel_rfl) rfl rfl hW' ⟨rfl, rfl, rfl⟩ hb

theorem FnNetSides_holds : Rows.FnNetSidesSaid :=
  OpenClaim.holds_of_wide 3 Try.f3 rfl rfl rfl rfl rfl rfl rfl ⟨rfl, rfl, rfl, rfl, rfl⟩ rfl rfl rfl rfl rfl (by kernel_rfl) Try.func3 (closed_of (by kernel_rfl))
    (of_decide_eq_true (by kernel_rfl)) (by unfold Func.isWrapper; first | (rw [if_pos (by decide +kernel)]; kernel_rfl) | (rw [if_neg (by decide +kernel)]; exact ⟨rfl, rfl⟩))
    (fun os started H enc _ => FnNetSides_lifted os started H enc)

end Go.Proofs.Ytiiijfhacaomdaa
