/-
  Proved here: the needs of two parts of a network together are those of all.
-/
import Derived.Test.YtiiijfhacaomdaaHead
import Derived.Test.YtiiijfhacaomdaaDrawP
import Derived.Test.YtiiijfhacaomdaaNdJ
import Derived.Test.YtiiijfhacaomdaaDrawNd
import Derived.Test.YtiiijfhacaomdaaBytes
namespace Go.Proofs.Ytiiijfhacaomdaa
set_option linter.unusedSimpArgs false
set_option linter.unusedVariables false
set_option linter.unusedSectionVars false
open Go Go.RowKit Go.ChangeShapes Go.WideShapes Go.ChangeAt
theorem needsFrom_bd : ∀ (ls : List Ly) (r c : Int) (x : Int × Int), (1 ≤ r ∧ r ≤ 5) → (1 ≤ c ∧ c ≤ 5) → sidesFrom ls r c = some x → (needsFrom ls r c).within (1000 * ls.length)
  | [], r, c, x, _, _, _ => by simp [needsFrom, Need.within, Need.zero]
  | l :: ls, r, c, x, hr, hc, h => by
    obtain ⟨a, b, hok, hs, ha, hb, h'⟩ := sidesFrom_cons hr hc h
    have h1 := needsFrom_bd ls a b x ha hb h'
    have h2 := Ly.needs_bd hok hr hc
    rw [needsFrom_cons hs]
    simp only [Need.within, Need.add, List.length_cons] at h1 h2 ⊢
    omega
theorem netNeeds_bd {ls : List Ly} {r c : Int} {x : Int × Int} (h : netSides ls r c = some x) : (netNeeds ls r c).within 4000 := by
  obtain ⟨h4, hr, hc, hs⟩ := netSides_some h
  have h1 := needsFrom_bd ls r c x hr hc hs
  rw [netNeeds, h]
  simp only [Need.within] at h1 ⊢
  omega
theorem netNeeds_none {ls : List Ly} {r c : Int} (h : netSides ls r c = none) : netNeeds ls r c = Need.zero := by rw [netNeeds, h]
attribute [local irreducible] netNeeds netSides
set_option maxHeartbeats 8000000 in
set_option maxRecDepth 20000 in
theorem L0_FnNeedsOf (CD : ∀ v w, Bytes w v → Calls Try.prog 13 #[v] w (DrawnNet w)) (v : Value) (w0 : World) (h : Bytes w0 v) :
    Calls Try.prog 4 #[v] w0 fun e w' => e = .returned (.bool true) ∧ Below w0.heap.size w0 w' := by
  have HB0 := Lib.hid h
  obtain ⟨A, n, cap, rfl, hcap, hmax, _⟩ := h
  unfold maxLen at hmax
  by_cases hbig : n > 1048576
  · obtain ⟨L, HL, S⟩ := st_start w0; have F : True := trivial
    go_enter Try.func4, Try.ntmps4
    go_wp2_with (first | (refine wpList_box rfl S _ _ rfl ?_; intro g w L hM T; clear F S; (try rw [HL.out] at hM); clear HL; (try simp [Act.put, Act.eval, Value.cells, splice] at hM); have HL := Lib.hid hM; clear hM; have S := T; clear T; have F := factsAll HL S; (try simp only [factsOf, cellsFrom, and_true, true_and, Nat.reduceAdd] at F))  | (refine wpList_store_box rfl S _ _ _ rfl 0 _ _ _ _ (atOf HL rfl) rfl _ rfl (by kernel_rfl) rfl rfl ?_; intro w L hM T; clear F S; (try rw [HL.out] at hM); clear HL; (try simp [Act.put, Act.eval, Value.cells, splice] at hM); have HL := Lib.hid hM; clear hM; have S := T; clear T; have F := factsAll HL S; (try simp only [factsOf, cellsFrom, and_true, true_and, Nat.reduceAdd] at F)) | (refine wpList_store_box rfl S _ _ _ rfl 1 _ _ _ _ (atOf HL rfl) rfl _ rfl (by kernel_rfl) rfl rfl ?_; intro w L hM T; clear F S; (try rw [HL.out] at hM); clear HL; (try simp [Act.put, Act.eval, Value.cells, splice] at hM); have HL := Lib.hid hM; clear hM; have S := T; clear T; have F := factsAll HL S; (try simp only [factsOf, cellsFrom, and_true, true_and, Nat.reduceAdd] at F)) | (refine wpList_store_box rfl S _ _ _ rfl 2 _ _ _ _ (atOf HL rfl) rfl _ rfl (by kernel_rfl) rfl rfl ?_; intro w L hM T; clear F S; (try rw [HL.out] at hM); clear HL; (try simp [Act.put, Act.eval, Value.cells, splice] at hM); have HL := Lib.hid hM; clear hM; have S := T; clear T; have F := factsAll HL S; (try simp only [factsOf, cellsFrom, and_true, true_and, Nat.reduceAdd] at F)) | (refine wpList_store_box rfl S _ _ _ rfl 3 _ _ _ _ (atOf HL rfl) rfl _ rfl (by kernel_rfl) rfl rfl ?_; intro w L hM T; clear F S; (try rw [HL.out] at hM); clear HL; (try simp [Act.put, Act.eval, Value.cells, splice] at hM); have HL := Lib.hid hM; clear hM; have S := T; clear T; have F := factsAll HL S; (try simp only [factsOf, cellsFrom, and_true, true_and, Nat.reduceAdd] at F))  )
    go_ret
    exact ⟨rfl, S.below⟩
  obtain ⟨L, HL, S⟩ := st_start w0; have F : True := trivial
  go_enter Try.func4, Try.ntmps4
  go_upto_region 4 with (first | (go_at_call 13; refine (CD _ _ (HB0.out.below S.below)).mono ?_; rintro e w0 ⟨u, ls, r, c, rfl, hs, hsh, hb⟩; have HBB := Lib.hid (S.below.trans (hb.mono S.below.size)); clear S HL F hb; obtain ⟨L, HL, S⟩ := st_start w0; have F : True := trivial))
  have HS := Lib.hid hs
  obtain ⟨B, cb, rfl, hcb, hmb, hA⟩ := hs
  obtain ⟨z, hz⟩ : ∃ z, netSides ls r c = z := ⟨_, rfl⟩
  have HZ := Lib.hid hz
  have CZ := fun v w h => C_impl_NetSides v ls r c z w h HZ.out
  obtain ⟨⟨yt, ym, yb, yo⟩, hy⟩ : ∃ y, netNeeds ls r c = y := ⟨_, rfl⟩
  have CS := fun v w h => C_spec_NeedsOf v ls r c _ w h hy
  have CI := fun v w h => C_impl_NeedsOf v ls r c _ w h hy
  dsimp only at CS CI
  cases z with
  | none =>
    have e0 : Need.mk yt ym yb yo = Need.zero := by rw [← hy]; exact netNeeds_none hz
    simp only [Need.zero, Need.mk.injEq] at e0
    obtain ⟨rfl, rfl, rfl, rfl⟩ := e0
    unfold sidesRes at CZ
    clear hA hz hy
    go_upto_region 5 with (first | (go_at_call 14; refine (CI _ _ (HS.out.at_ S)).mono ?_; rintro e w ⟨rfl, hb⟩; replace S := S.grow hb; clear hb) | (refine wpList_alloc rfl S 31 _ rfl zNd ?_; intro g w L hM T; clear F S; (try rw [HL.out] at hM); clear HL; (try simp [Act.put, Act.eval, Value.cells, splice] at hM); have HL := Lib.hid hM; clear hM; have S := T; clear T; have F := factsAll HL S; (try simp only [factsOf, cellsFrom, and_true, true_and, Nat.reduceAdd] at F)) | (refine wpList_store_box rfl S _ _ _ rfl 0 _ _ _ _ (atOf HL rfl) rfl _ rfl (by kernel_rfl) rfl rfl ?_; intro w L hM T; clear F S; (try rw [HL.out] at hM); clear HL; (try simp [Act.put, Act.eval, Value.cells, splice] at hM); have HL := Lib.hid hM; clear hM; have S := T; clear T; have F := factsAll HL S; (try simp only [factsOf, cellsFrom, and_true, true_and, Nat.reduceAdd] at F)))
    have HL0 := HL; have F0 := F; refine wp_region_tree (S := fun w' => St w0 w' L) (.calm 0 (.calm 1 (.calm 2 (.calm 3 (.act 4 (.calm 5 .fin) .stop))))) (by kernel_rfl) (by kernel_rfl) (by kernel_rfl) (by intro c a d v w h; cases d <;> exact h) ?_; replace S := S.drew
    repeat (first | (first | (refine tree_calm (v := ?_) ?_ rfl (by decide +kernel) rfl ?_ ?_; rotate_left; (focus (first | exact S | (refine S.sub (subL HL0 HL ?_); (repeat (first | exact List.Sublist.refl _ | apply List.Sublist.cons)); done))); (focus (intro w' hS'; (try dsimp only at hS'); go_simp; try rfl)); (try simp only [Act.put, List.setIfInBounds_toArray, List.set_cons_zero, List.set_cons_succ])) | (refine tree_any (v := ?_) ?_ rfl rfl ?_ ?_; rotate_left; (focus (first | exact S | (refine S.sub (subL HL0 HL ?_); (repeat (first | exact List.Sublist.refl _ | apply List.Sublist.cons)); done))); (focus (intro w'; go_simp; try rfl)); (try simp only [Act.put, List.setIfInBounds_toArray, List.set_cons_zero, List.set_cons_succ]))) | (refine tree_skip ?_ rfl rfl ?_; (focus (first | exact S | (refine S.sub (subL HL0 HL ?_); (repeat (first | exact List.Sublist.refl _ | apply List.Sublist.cons)); done))); (try simp only [Act.put, List.setIfInBounds_toArray, List.set_cons_zero, List.set_cons_succ])) | (refine tree_act rfl rfl ?_ tree_stop; intro K hK; go_wp2_with (first | (go_at_call 15; refine (CS _ _ (HS.out.at_ S)).mono ?_; rintro e w ⟨rfl, hb⟩; replace S := S.grow hb; clear hb)); (refine hK.out _ _ ?_ ?_; (focus (first | exact fun _ => S | (intro _; refine S.sub (subL HL0 HL ?_); (repeat (first | exact List.Sublist.refl _ | apply List.Sublist.cons)); done) | (refine sink_no ?_; kernel_rfl))); clear hK K; (try simp only [Act.put, List.setIfInBounds_toArray, List.set_cons_zero, List.set_cons_succ]))))
    refine tree_fin ?_
    clear HL0 F0
    go_wp2_with (first | (refine wpList_box rfl S _ _ rfl ?_; intro g w L hM T; clear F S; (try rw [HL.out] at hM); clear HL; (try simp [Act.put, Act.eval, Value.cells, splice] at hM); have HL := Lib.hid hM; clear hM; have S := T; clear T; have F := factsAll HL S; (try simp only [factsOf, cellsFrom, and_true, true_and, Nat.reduceAdd] at F))  | (refine wpList_store_box rfl S _ _ _ rfl 0 _ _ _ _ (atOf HL rfl) rfl _ rfl (by kernel_rfl) rfl rfl ?_; intro w L hM T; clear F S; (try rw [HL.out] at hM); clear HL; (try simp [Act.put, Act.eval, Value.cells, splice] at hM); have HL := Lib.hid hM; clear hM; have S := T; clear T; have F := factsAll HL S; (try simp only [factsOf, cellsFrom, and_true, true_and, Nat.reduceAdd] at F)) | (refine wpList_store_box rfl S _ _ _ rfl 1 _ _ _ _ (atOf HL rfl) rfl _ rfl (by kernel_rfl) rfl rfl ?_; intro w L hM T; clear F S; (try rw [HL.out] at hM); clear HL; (try simp [Act.put, Act.eval, Value.cells, splice] at hM); have HL := Lib.hid hM; clear hM; have S := T; clear T; have F := factsAll HL S; (try simp only [factsOf, cellsFrom, and_true, true_and, Nat.reduceAdd] at F)) | (refine wpList_store_box rfl S _ _ _ rfl 2 _ _ _ _ (atOf HL rfl) rfl _ rfl (by kernel_rfl) rfl rfl ?_; intro w L hM T; clear F S; (try rw [HL.out] at hM); clear HL; (try simp [Act.put, Act.eval, Value.cells, splice] at hM); have HL := Lib.hid hM; clear hM; have S := T; clear T; have F := factsAll HL S; (try simp only [factsOf, cellsFrom, and_true, true_and, Nat.reduceAdd] at F)) | (refine wpList_store_box rfl S _ _ _ rfl 3 _ _ _ _ (atOf HL rfl) rfl _ rfl (by kernel_rfl) rfl rfl ?_; intro w L hM T; clear F S; (try rw [HL.out] at hM); clear HL; (try simp [Act.put, Act.eval, Value.cells, splice] at hM); have HL := Lib.hid hM; clear hM; have S := T; clear T; have F := factsAll HL S; (try simp only [factsOf, cellsFrom, and_true, true_and, Nat.reduceAdd] at F))  | (go_at_call 10; refine (CZ _ _ (HS.out.at_ S)).mono ?_; rintro e w ⟨rfl, hb⟩; replace S := S.grow hb; clear hb) | (go_at_call 12; refine (C_alive _).mono ?_; rintro e w' ⟨rfl, rfl⟩))
    go_ret
    exact ⟨rfl, HBB.out.trans (S.below.mono HBB.out.size)⟩
  | some x =>
    obtain ⟨x1, x2⟩ := x
    unfold sidesRes at CZ
    dsimp only at CZ
    obtain ⟨m, hm⟩ : ∃ m, ls.length = m := ⟨_, rfl⟩
    obtain ⟨q, hq⟩ : ∃ q, m / 2 = q := ⟨_, rfl⟩
    have h4 := (netSides_some hz).1
    obtain ⟨a, b, e1, e2, e3⟩ := net_parts hz q (by omega)
    have hb1 := netNeeds_bd e1
    have hb2 := netNeeds_bd e2
    obtain ⟨⟨pt, pm, pb, po⟩, hp⟩ : ∃ y, netNeeds (ls.take q) r c = y := ⟨_, rfl⟩
    obtain ⟨⟨st, sm, sb, so⟩, hs2⟩ : ∃ y, netNeeds (ls.drop q) a b = y := ⟨_, rfl⟩
    have C1 := fun v w h => C_impl_NetSides v (ls.take q) r c _ w h e1
    have C2 := fun v r' c' w h hh => C_impl_NeedsOf v (ls.take q) r' c' ⟨pt, pm, pb, po⟩ w h hh
    have C3 := fun v r' c' w h hh => C_impl_NeedsOf v (ls.drop q) r' c' ⟨st, sm, sb, so⟩ w h hh
    have HP := Lib.hid hp
    have HS2 := Lib.hid hs2
    unfold sidesRes at C1
    dsimp only at C1 C2 C3
    rw [hy, hp, hs2] at e3
    rw [hp] at hb1
    rw [hs2] at hb2
    simp only [Need.add, Need.mk.injEq] at e3
    simp only [Need.within] at hb1 hb2
    have CA := fun w => C_AddLow pt pm pb po st sm sb so w ⟨by omega, by omega⟩ ⟨by omega, by omega⟩ ⟨by omega, by omega⟩ ⟨by omega, by omega⟩ ⟨by omega, by omega⟩ ⟨by omega, by omega⟩ ⟨by omega, by omega⟩ ⟨by omega, by omega⟩
    obtain ⟨g1, g2, g3, g4⟩ := e3
    rw [← g1, ← g2, ← g3, ← g4] at CA
    rw [hm] at hcb HS h4 hA hsh ⊢
    have hqm : q ≤ m := by omega
    have hq2 : 2 * q ≤ m := by omega
    have hqd : (m : Int).tdiv 2 = (q : Int) := by rw [Int.tdiv_eq_ediv_of_nonneg (by omega), ← hq]; rfl
    have HF := Lib.hid (HS.out.front q hqm)
    unfold maxLen at hmb
    clear hz e1 e2 hm hq hy hp hs2 g1 g2 g3 g4 hb1 hb2
    go_upto_region 5 with (first | (go_at_call 14; refine (CI _ _ (HS.out.at_ S)).mono ?_; rintro e w ⟨rfl, hb⟩; replace S := S.grow hb; clear hb) | (refine wpList_alloc rfl S 31 _ rfl zNd ?_; intro g w L hM T; clear F S; (try rw [HL.out] at hM); clear HL; (try simp [Act.put, Act.eval, Value.cells, splice] at hM); have HL := Lib.hid hM; clear hM; have S := T; clear T; have F := factsAll HL S; (try simp only [factsOf, cellsFrom, and_true, true_and, Nat.reduceAdd] at F)) | (refine wpList_store_box rfl S _ _ _ rfl 0 _ _ _ _ (atOf HL rfl) rfl _ rfl (by kernel_rfl) rfl rfl ?_; intro w L hM T; clear F S; (try rw [HL.out] at hM); clear HL; (try simp [Act.put, Act.eval, Value.cells, splice] at hM); have HL := Lib.hid hM; clear hM; have S := T; clear T; have F := factsAll HL S; (try simp only [factsOf, cellsFrom, and_true, true_and, Nat.reduceAdd] at F)))
    have HL0 := HL; have F0 := F; refine wp_region_tree (S := fun w' => St w0 w' L) (.calm 0 (.calm 1 (.calm 2 (.calm 3 (.act 4 (.calm 5 .fin) .stop))))) (by kernel_rfl) (by kernel_rfl) (by kernel_rfl) (by intro c a d v w h; cases d <;> exact h) ?_; replace S := S.drew
    repeat (first | (first | (refine tree_calm (v := ?_) ?_ rfl (by decide +kernel) rfl ?_ ?_; rotate_left; (focus (first | exact S | (refine S.sub (subL HL0 HL ?_); (repeat (first | exact List.Sublist.refl _ | apply List.Sublist.cons)); done))); (focus (intro w' hS'; (try dsimp only at hS'); go_simp; try rfl)); (try simp only [Act.put, List.setIfInBounds_toArray, List.set_cons_zero, List.set_cons_succ])) | (refine tree_any (v := ?_) ?_ rfl rfl ?_ ?_; rotate_left; (focus (first | exact S | (refine S.sub (subL HL0 HL ?_); (repeat (first | exact List.Sublist.refl _ | apply List.Sublist.cons)); done))); (focus (intro w'; go_simp; try rfl)); (try simp only [Act.put, List.setIfInBounds_toArray, List.set_cons_zero, List.set_cons_succ]))) | (refine tree_skip ?_ rfl rfl ?_; (focus (first | exact S | (refine S.sub (subL HL0 HL ?_); (repeat (first | exact List.Sublist.refl _ | apply List.Sublist.cons)); done))); (try simp only [Act.put, List.setIfInBounds_toArray, List.set_cons_zero, List.set_cons_succ])) | (refine tree_act rfl rfl ?_ tree_stop; intro K hK; go_wp2_with (first | (go_at_call 15; refine (CS _ _ (HS.out.at_ S)).mono ?_; rintro e w ⟨rfl, hb⟩; replace S := S.grow hb; clear hb)); (refine hK.out _ _ ?_ ?_; (focus (first | exact fun _ => S | (intro _; refine S.sub (subL HL0 HL ?_); (repeat (first | exact List.Sublist.refl _ | apply List.Sublist.cons)); done) | (refine sink_no ?_; kernel_rfl))); clear hK K; (try simp only [Act.put, List.setIfInBounds_toArray, List.set_cons_zero, List.set_cons_succ]))))
    refine tree_fin ?_
    clear HL0 F0 CS CI
    go_upto_region 11 with (first | (go_at_call 10; refine (CZ _ _ (HS.out.at_ S)).mono ?_; rintro e w ⟨rfl, hb⟩; replace S := S.grow hb; clear hb))
    clear CZ
    rcases hsh with ⟨he, hl0⟩ | ⟨gl, cl, he⟩
    · simp only [Value.slice.injEq] at he
      obtain ⟨rfl, rfl, rfl⟩ := he
      obtain rfl : q = 0 := by omega
      have HR : Hid (SeesLs w0 (.slice none 0 0) (ls.drop 0)) := Lib.hid (by rw [List.drop_zero]; exact HS.out)
      clear hA hl0
      go_upto_region 12 with (first | (go_at_call 10; refine (C1 _ _ (by exact HF.out.at_ S)).mono ?_; rintro e w ⟨rfl, hb⟩; replace S := S.grow hb; clear hb))
      have HL0 := HL; have F0 := F; refine wp_region_tree (S := fun w' => St w0 w' L) (.calm 0 (.calm 1 (.calm 2 (.calm 3 (.calm 4 (.calm 6 (.calm 7 (.calm 8 (.calm 9 (.calm 10 (.calm 13 (.act 5 (.act 11 (.act 12 (.calm 14 (.calm 15 .fin)) .stop) .stop) .stop)))))))))))) (by kernel_rfl) (by kernel_rfl) (by kernel_rfl) (by intro c a d v w h; cases d <;> exact h) ?_; replace S := S.drew
      repeat (first | (first | (refine tree_calm (v := ?_) ?_ rfl (by decide +kernel) rfl ?_ ?_; rotate_left; (focus (first | exact S | (refine S.sub (subL HL0 HL ?_); (repeat (first | exact List.Sublist.refl _ | apply List.Sublist.cons)); done))); (focus (intro w' hS'; (try dsimp only at hS'); go_simp; try rfl)); (try simp only [Act.put, List.setIfInBounds_toArray, List.set_cons_zero, List.set_cons_succ])) | (refine tree_any (v := ?_) ?_ rfl rfl ?_ ?_; rotate_left; (focus (first | exact S | (refine S.sub (subL HL0 HL ?_); (repeat (first | exact List.Sublist.refl _ | apply List.Sublist.cons)); done))); (focus (intro w'; go_simp; try rfl)); (try simp only [Act.put, List.setIfInBounds_toArray, List.set_cons_zero, List.set_cons_succ]))) | (refine tree_skip ?_ rfl rfl ?_; (focus (first | exact S | (refine S.sub (subL HL0 HL ?_); (repeat (first | exact List.Sublist.refl _ | apply List.Sublist.cons)); done))); (try simp only [Act.put, List.setIfInBounds_toArray, List.set_cons_zero, List.set_cons_succ])) | (refine tree_act rfl rfl ?_ tree_stop; intro K hK; go_wp2_with (first | (go_at_call 14; refine (C2 _ _ _ _ (by exact HF.out.at_ S) (by exact HP.out)).mono ?_; rintro e w ⟨rfl, hb⟩; replace S := S.grow hb; clear hb) | (go_at_call 14; refine (C3 _ _ _ _ (by exact HR.out.at_ S) (by exact HS2.out)).mono ?_; rintro e w ⟨rfl, hb⟩; replace S := S.grow hb; clear hb) | (go_at_call 16; refine (CA _).mono ?_; rintro e w ⟨rfl, hb⟩; replace S := S.grow hb; clear hb)); (refine hK.out _ _ ?_ ?_; (focus (first | exact fun _ => S | (intro _; refine S.sub (subL HL0 HL ?_); (repeat (first | exact List.Sublist.refl _ | apply List.Sublist.cons)); done) | (refine sink_no ?_; kernel_rfl))); clear hK K; (try simp only [Act.put, List.setIfInBounds_toArray, List.set_cons_zero, List.set_cons_succ]))))
      refine tree_fin ?_
      go_wp2
      go_ret
      exact ⟨rfl, HBB.out.trans (S.below.mono HBB.out.size)⟩
    · simp only [Value.slice.injEq] at he
      obtain ⟨rfl, _, rfl⟩ := he
      clear hA
      rcases Nat.eq_zero_or_pos m with hm0 | hm0
      · obtain rfl : q = 0 := by omega
        subst hm0
        have HR : Hid (SeesLs w0 (.slice (some ⟨gl, 0, none⟩) 0 cb) (ls.drop 0)) := Lib.hid (by rw [List.drop_zero]; exact HS.out)
        by_cases hc0 : cb = 0
        · subst hc0
          go_upto_region 12 with (first | (go_at_call 10; refine (C1 _ _ (by exact HF.out.at_ S)).mono ?_; rintro e w ⟨rfl, hb⟩; replace S := S.grow hb; clear hb))
          have HL0 := HL; have F0 := F; refine wp_region_tree (S := fun w' => St w0 w' L) (.calm 0 (.calm 1 (.calm 2 (.calm 3 (.calm 4 (.calm 6 (.calm 7 (.calm 8 (.calm 9 (.calm 10 (.calm 13 (.act 5 (.act 11 (.act 12 (.calm 14 (.calm 15 .fin)) .stop) .stop) .stop)))))))))))) (by kernel_rfl) (by kernel_rfl) (by kernel_rfl) (by intro c a d v w h; cases d <;> exact h) ?_; replace S := S.drew
          repeat (first | (first | (refine tree_calm (v := ?_) ?_ rfl (by decide +kernel) rfl ?_ ?_; rotate_left; (focus (first | exact S | (refine S.sub (subL HL0 HL ?_); (repeat (first | exact List.Sublist.refl _ | apply List.Sublist.cons)); done))); (focus (intro w' hS'; (try dsimp only at hS'); go_simp; try rfl)); (try simp only [Act.put, List.setIfInBounds_toArray, List.set_cons_zero, List.set_cons_succ])) | (refine tree_any (v := ?_) ?_ rfl rfl ?_ ?_; rotate_left; (focus (first | exact S | (refine S.sub (subL HL0 HL ?_); (repeat (first | exact List.Sublist.refl _ | apply List.Sublist.cons)); done))); (focus (intro w'; go_simp; try rfl)); (try simp only [Act.put, List.setIfInBounds_toArray, List.set_cons_zero, List.set_cons_succ]))) | (refine tree_skip ?_ rfl rfl ?_; (focus (first | exact S | (refine S.sub (subL HL0 HL ?_); (repeat (first | exact List.Sublist.refl _ | apply List.Sublist.cons)); done))); (try simp only [Act.put, List.setIfInBounds_toArray, List.set_cons_zero, List.set_cons_succ])) | (refine tree_act rfl rfl ?_ tree_stop; intro K hK; go_wp2_with (first | (go_at_call 14; refine (C2 _ _ _ _ (by exact HF.out.at_ S) (by exact HP.out)).mono ?_; rintro e w ⟨rfl, hb⟩; replace S := S.grow hb; clear hb) | (go_at_call 14; refine (C3 _ _ _ _ (by exact HR.out.at_ S) (by exact HS2.out)).mono ?_; rintro e w ⟨rfl, hb⟩; replace S := S.grow hb; clear hb) | (go_at_call 16; refine (CA _).mono ?_; rintro e w ⟨rfl, hb⟩; replace S := S.grow hb; clear hb)); (refine hK.out _ _ ?_ ?_; (focus (first | exact fun _ => S | (intro _; refine S.sub (subL HL0 HL ?_); (repeat (first | exact List.Sublist.refl _ | apply List.Sublist.cons)); done) | (refine sink_no ?_; kernel_rfl))); clear hK K; (try simp only [Act.put, List.setIfInBounds_toArray, List.set_cons_zero, List.set_cons_succ]))))
          refine tree_fin ?_
          go_wp2
          go_ret
          exact ⟨rfl, HBB.out.trans (S.below.mono HBB.out.size)⟩
        · go_upto_region 12 with (first | (go_at_call 10; refine (C1 _ _ (by exact HF.out.at_ S)).mono ?_; rintro e w ⟨rfl, hb⟩; replace S := S.grow hb; clear hb))
          have HL0 := HL; have F0 := F; refine wp_region_tree (S := fun w' => St w0 w' L) (.calm 0 (.calm 1 (.calm 2 (.calm 3 (.calm 4 (.calm 6 (.calm 7 (.calm 8 (.calm 9 (.calm 10 (.calm 13 (.act 5 (.act 11 (.act 12 (.calm 14 (.calm 15 .fin)) .stop) .stop) .stop)))))))))))) (by kernel_rfl) (by kernel_rfl) (by kernel_rfl) (by intro c a d v w h; cases d <;> exact h) ?_; replace S := S.drew
          repeat (first | (first | (refine tree_calm (v := ?_) ?_ rfl (by decide +kernel) rfl ?_ ?_; rotate_left; (focus (first | exact S | (refine S.sub (subL HL0 HL ?_); (repeat (first | exact List.Sublist.refl _ | apply List.Sublist.cons)); done))); (focus (intro w' hS'; (try dsimp only at hS'); go_simp; try rfl)); (try simp only [Act.put, List.setIfInBounds_toArray, List.set_cons_zero, List.set_cons_succ])) | (refine tree_any (v := ?_) ?_ rfl rfl ?_ ?_; rotate_left; (focus (first | exact S | (refine S.sub (subL HL0 HL ?_); (repeat (first | exact List.Sublist.refl _ | apply List.Sublist.cons)); done))); (focus (intro w'; go_simp; try rfl)); (try simp only [Act.put, List.setIfInBounds_toArray, List.set_cons_zero, List.set_cons_succ]))) | (refine tree_skip ?_ rfl rfl ?_; (focus (first | exact S | (refine S.sub (subL HL0 HL ?_); (repeat (first | exact List.Sublist.refl _ | apply List.Sublist.cons)); done))); (try simp only [Act.put, List.setIfInBounds_toArray, List.set_cons_zero, List.set_cons_succ])) | (refine tree_act rfl rfl ?_ tree_stop; intro K hK; go_wp2_with (first | (go_at_call 14; refine (C2 _ _ _ _ (by exact HF.out.at_ S) (by exact HP.out)).mono ?_; rintro e w ⟨rfl, hb⟩; replace S := S.grow hb; clear hb) | (go_at_call 14; refine (C3 _ _ _ _ (by exact HR.out.at_ S) (by exact HS2.out)).mono ?_; rintro e w ⟨rfl, hb⟩; replace S := S.grow hb; clear hb) | (go_at_call 16; refine (CA _).mono ?_; rintro e w ⟨rfl, hb⟩; replace S := S.grow hb; clear hb)); (refine hK.out _ _ ?_ ?_; (focus (first | exact fun _ => S | (intro _; refine S.sub (subL HL0 HL ?_); (repeat (first | exact List.Sublist.refl _ | apply List.Sublist.cons)); done) | (refine sink_no ?_; kernel_rfl))); clear hK K; (try simp only [Act.put, List.setIfInBounds_toArray, List.set_cons_zero, List.set_cons_succ]))))
          refine tree_fin ?_
          go_wp2
          go_ret
          exact ⟨rfl, HBB.out.trans (S.below.mono HBB.out.size)⟩
      · have hne : ¬ cb = q := by omega
        have hqc : q ≤ cb := by omega
        have HR : Hid (SeesLs w0 (.slice (some ⟨gl, q * 2, none⟩) (m - q) (cb - q)) (ls.drop q)) := Lib.hid (HS.out.rest q (m - q) (by omega) (q * 2) (cb - q) (by omega) ⟨by omega, by omega⟩)
        go_upto_region 12 with (first | (go_at_call 10; refine (C1 _ _ (by exact HF.out.at_ S)).mono ?_; rintro e w ⟨rfl, hb⟩; replace S := S.grow hb; clear hb))
        have HL0 := HL; have F0 := F; refine wp_region_tree (S := fun w' => St w0 w' L) (.calm 0 (.calm 1 (.calm 2 (.calm 3 (.calm 4 (.calm 6 (.calm 7 (.calm 8 (.calm 9 (.calm 10 (.calm 13 (.act 5 (.act 11 (.act 12 (.calm 14 (.calm 15 .fin)) .stop) .stop) .stop)))))))))))) (by kernel_rfl) (by kernel_rfl) (by kernel_rfl) (by intro c a d v w h; cases d <;> exact h) ?_; replace S := S.drew
        repeat (first | (first | (refine tree_calm (v := ?_) ?_ rfl (by decide +kernel) rfl ?_ ?_; rotate_left; (focus (first | exact S | (refine S.sub (subL HL0 HL ?_); (repeat (first | exact List.Sublist.refl _ | apply List.Sublist.cons)); done))); (focus (intro w' hS'; (try dsimp only at hS'); go_simp; try rfl)); (try simp only [Act.put, List.setIfInBounds_toArray, List.set_cons_zero, List.set_cons_succ])) | (refine tree_any (v := ?_) ?_ rfl rfl ?_ ?_; rotate_left; (focus (first | exact S | (refine S.sub (subL HL0 HL ?_); (repeat (first | exact List.Sublist.refl _ | apply List.Sublist.cons)); done))); (focus (intro w'; go_simp; try rfl)); (try simp only [Act.put, List.setIfInBounds_toArray, List.set_cons_zero, List.set_cons_succ]))) | (refine tree_skip ?_ rfl rfl ?_; (focus (first | exact S | (refine S.sub (subL HL0 HL ?_); (repeat (first | exact List.Sublist.refl _ | apply List.Sublist.cons)); done))); (try simp only [Act.put, List.setIfInBounds_toArray, List.set_cons_zero, List.set_cons_succ])) | (refine tree_act rfl rfl ?_ tree_stop; intro K hK; go_wp2_with (first | (go_at_call 14; refine (C2 _ _ _ _ (by exact HF.out.at_ S) (by exact HP.out)).mono ?_; rintro e w ⟨rfl, hb⟩; replace S := S.grow hb; clear hb) | (go_at_call 14; refine (C3 _ _ _ _ (by exact HR.out.at_ S) (by exact HS2.out)).mono ?_; rintro e w ⟨rfl, hb⟩; replace S := S.grow hb; clear hb) | (go_at_call 16; refine (CA _).mono ?_; rintro e w ⟨rfl, hb⟩; replace S := S.grow hb; clear hb)); (refine hK.out _ _ ?_ ?_; (focus (first | exact fun _ => S | (intro _; refine S.sub (subL HL0 HL ?_); (repeat (first | exact List.Sublist.refl _ | apply List.Sublist.cons)); done) | (refine sink_no ?_; kernel_rfl))); clear hK K; (try simp only [Act.put, List.setIfInBounds_toArray, List.set_cons_zero, List.set_cons_succ]))))
        refine tree_fin ?_
        go_wp2
        go_ret
        exact ⟨rfl, HBB.out.trans (S.below.mono HBB.out.size)⟩
theorem L_FnNeedsOf (v : Value) (w0 : World) (h : Bytes w0 v) : Calls Try.prog 4 #[v] w0 fun e w' => e = .returned (.bool true) ∧ Below w0.heap.size w0 w' :=
  L0_FnNeedsOf (fun v w h => C_DrawNeedsOf v w h) v w0 h

set_option maxRecDepth 100000 in
theorem FnNeedsOf_lifted (os : Os) (started : os.Started) (H : Type) (enc : TypeId × Value → H) :
    ReturnsInHanded {} Try.checked os 4 .any (Rows.fnNeedsOfSpec.pre6 enc Try.prog Try.f4 Rows.fnNeedsOfRow.domain false) (Rows.fnNeedsOfSpec.post enc Try.prog Try.f4 false true false false) := by
  refine returnsInHanded_of_change (C := Try.checked) Try.ownKnob_ started (by kernel_rfl) Try.func4
    (ChangeSpec.witness6 (enc := enc) (C := Try.checked) false ⟨#[], #[.slice none 0 0], []⟩ 8 (by kernel_rfl) (by kernel_rfl) (by kernel_rfl) (by kernel_rfl)) ?_
  intro W base args ds gs before hval0 hW _ _
  have hval : ∀ (j : Nat) t v, Try.f4.params[j]? = some t → args[j]? = some v → Value.okWide Try.prog W .any base t v := hval0
  have hW' := hW
  obtain ⟨p, q, hA0, hV, rfl, _, _⟩ := hW
  have hA : DataW.TrodAll enc Try.prog W 0 (fun _ => true) true Try.f4.params.toList args.toList ds p := hA0
  rw [Try.params4] at hA hval
  obtain ⟨v0, vs0, d0, ds0, p0, q0, hargs, rfl, rfl, h0, r0⟩ := trodAll_cons hA
  obtain ⟨rfl, rfl, rfl⟩ := trodAll_nil r0
  obtain rfl : args = #[v0] := by cases args; simp_all
  obtain ⟨rfl, rfl⟩ := trodVars_none hV
  clear hA0 hval0
  have s0 := open_bytes (e := 5) (by kernel_rfl) (hval 0 _ v0 rfl rfl) h0
  refine (L_FnNeedsOf _ W s0).mono fun e W' ⟨he, hb⟩ => ⟨_, he, ?_⟩
  exact law_post 4 Try.underlying4 Try.laidOut_ (by kernel_rfl) rfl rfl hW' ⟨rfl, rfl, rfl⟩ hb

theorem FnNeedsOf_holds : Rows.FnNeedsOfSaid :=
  OpenClaim.holds_of_wide 4 Try.f4 rfl rfl rfl rfl rfl rfl rfl ⟨rfl, rfl, rfl, rfl, rfl⟩ rfl rfl rfl rfl rfl (by kernel_rfl) Try.func4 (closed_of (by kernel_rfl))
    (of_decide_eq_true (by kernel_rfl)) (by unfold Func.isWrapper; first | (rw [if_pos (by decide +kernel)]; kernel_rfl) | (rw [if_neg (by decide +kernel)]; exact ⟨rfl, rfl⟩))
    (fun os started H enc _ => FnNeedsOf_lifted os started H enc)

end Go.Proofs.Ytiiijfhacaomdaa
