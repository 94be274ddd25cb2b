/-
  Contracts: what networks need (the reference's).
-/
import Derived.Test.YtiiijfhacaomdaaNdS
namespace Go.Proofs.Ytiiijfhacaomdaa
set_option linter.unusedSimpArgs false
set_option linter.unusedVariables false
set_option linter.unusedSectionVars false
open Go Go.RowKit
set_option maxHeartbeats 8000000
set_option maxRecDepth 20000
theorem sidesFrom_cons {l : Ly} {ls : List Ly} {r c : Int} {x : Int × Int} (hr : 1 ≤ r ∧ r ≤ 5) (hc : 1 ≤ c ∧ c ≤ 5) (h : sidesFrom (l :: ls) r c = some x) :
    ∃ a b, l.ok = true ∧ l.sides r c = some (a, b) ∧ (1 ≤ a ∧ a ≤ 5) ∧ (1 ≤ b ∧ b ≤ 5) ∧ sidesFrom ls a b = some x := by
  unfold sidesFrom at h
  split at h
  · rename_i hok
    split at h
    · rename_i a b hs
      obtain ⟨ha, hb⟩ := Ly.sides_ok hok hr hc hs
      exact ⟨a, b, hok, hs, ha, hb, h⟩
    · cases h
  · cases h
theorem netSides_some {ls : List Ly} {r c : Int} {x : Int × Int} (h : netSides ls r c = some x) : ls.length ≤ 4 ∧ (1 ≤ r ∧ r ≤ 5) ∧ (1 ≤ c ∧ c ≤ 5) ∧ sidesFrom ls r c = some x := by
  unfold netSides at h
  split at h
  · rename_i hc
    simp only [Bool.and_eq_true, decide_eq_true_eq, sideOk_iff] at hc
    exact ⟨hc.1.1, hc.1.2, hc.2, h⟩
  · cases h
theorem needsFrom_cons {l : Ly} {ls : List Ly} {r c a b : Int} (h : l.sides r c = some (a, b)) : needsFrom (l :: ls) r c = (l.needs r c).add (needsFrom ls a b) := by
  rw [needsFrom, h]
theorem C_spec_NeedsOf (v : Value) (ls : List Ly) (r c : Int) (y : Need) (w0 : World) (h : SeesLs w0 v ls) (hy : netNeeds ls r c = y) :
    Calls Try.prog 15 #[v, .int .i64 r, .int .i64 c] w0 fun e w' => e = .returned (.agg #[.int .i64 y.t, .int .i64 y.m, .int .i64 y.b, .int .i64 y.o]) ∧ Below w0.heap.size w0 w' := by
  have H := Lib.hid h
  obtain ⟨A, cap, rfl, hcap, hmax, hA⟩ := h
  obtain ⟨z, hz⟩ : ∃ z, netSides ls r c = z := ⟨_, rfl⟩
  have HZ := Lib.hid hz
  have CS := fun v w h => C_spec_NetSides v ls r c z w h HZ.out
  unfold netNeeds at hy
  rw [hz] at hy
  cases z with
  | none =>
    subst hy
    clear hz hA
    unfold sidesRes at CS
    obtain ⟨L, HL, S⟩ := st_start w0; have F : True := trivial
    go_enter Try.func15, Try.ntmps15
    go_wp2_with (first | (refine wpList_box rfl S _ _ rfl ?_; intro g w L hM T; clear F S; (try rw [HL.out] at hM); clear HL; (try simp [Act.put, Act.eval, Value.cells, splice] at hM); have HL := Lib.hid hM; clear hM; have S := T; clear T; have F := factsAll HL S; (try simp only [factsOf, cellsFrom, and_true, true_and, Nat.reduceAdd] at F)) | (refine wpList_alloc rfl S 31 _ rfl zNd ?_; intro g w L hM T; clear F S; (try rw [HL.out] at hM); clear HL; (try simp [Act.put, Act.eval, Value.cells, splice] at hM); have HL := Lib.hid hM; clear hM; have S := T; clear T; have F := factsAll HL S; (try simp only [factsOf, cellsFrom, and_true, true_and, Nat.reduceAdd] at F)) | (refine wpList_store_box rfl S _ _ _ rfl 0 _ _ _ _ (atOf HL rfl) rfl _ rfl (by kernel_rfl) rfl rfl ?_; intro w L hM T; clear F S; (try rw [HL.out] at hM); clear HL; (try simp [Act.put, Act.eval, Value.cells, splice] at hM); have HL := Lib.hid hM; clear hM; have S := T; clear T; have F := factsAll HL S; (try simp only [factsOf, cellsFrom, and_true, true_and, Nat.reduceAdd] at F)) | (refine wpList_store_box rfl S _ _ _ rfl 1 _ _ _ _ (atOf HL rfl) rfl _ rfl (by kernel_rfl) rfl rfl ?_; intro w L hM T; clear F S; (try rw [HL.out] at hM); clear HL; (try simp [Act.put, Act.eval, Value.cells, splice] at hM); have HL := Lib.hid hM; clear hM; have S := T; clear T; have F := factsAll HL S; (try simp only [factsOf, cellsFrom, and_true, true_and, Nat.reduceAdd] at F)) | (refine wpList_store_box rfl S _ _ _ rfl 2 _ _ _ _ (atOf HL rfl) rfl _ rfl (by kernel_rfl) rfl rfl ?_; intro w L hM T; clear F S; (try rw [HL.out] at hM); clear HL; (try simp [Act.put, Act.eval, Value.cells, splice] at hM); have HL := Lib.hid hM; clear hM; have S := T; clear T; have F := factsAll HL S; (try simp only [factsOf, cellsFrom, and_true, true_and, Nat.reduceAdd] at F)) | (refine wpList_store_box rfl S _ _ _ rfl 3 _ _ _ _ (atOf HL rfl) rfl _ rfl (by kernel_rfl) rfl rfl ?_; intro w L hM T; clear F S; (try rw [HL.out] at hM); clear HL; (try simp [Act.put, Act.eval, Value.cells, splice] at hM); have HL := Lib.hid hM; clear hM; have S := T; clear T; have F := factsAll HL S; (try simp only [factsOf, cellsFrom, and_true, true_and, Nat.reduceAdd] at F))  | (go_at_call 11; refine (CS _ _ (H.out.at_ S)).mono ?_; rintro e w ⟨rfl, hb⟩; replace S := S.grow hb; clear hb))
    ((try simp only [Exit.inBlock, Exit.then]); refine ret1 rfl (resCell S HL 1 rfl rfl (by kernel_rfl)) rfl ?_)
    exact ⟨rfl, S.below⟩
  | some x =>
    obtain ⟨x1, x2⟩ := x
    dsimp only at hy
    unfold sidesRes at CS
    dsimp only at CS
    obtain ⟨h4, q1, q2, hs⟩ := netSides_some hz
    obtain ⟨n, hn⟩ : ∃ n, ls.length = n := ⟨_, rfl⟩
    rw [hn] at hcap hA h4 H ⊢
    have HN := Lib.hid hn
    have HA := Lib.hid hA
    have HS := Lib.hid hs
    have HY := Lib.hid hy
    clear hz hn hA hs hy HZ
    unfold maxLen at hmax
    obtain ⟨L, HL, S⟩ := st_start w0; have F : True := trivial
    go_enter Try.func15, Try.ntmps15
    go_upto_region 1 with (first | (refine wpList_alloc rfl S 31 _ rfl zNd ?_; intro g6 w L hM T; clear F S; (try rw [HL.out] at hM); clear HL; (try simp [Act.put, Act.eval, Value.cells, splice] at hM); have HL := Lib.hid hM; clear hM; have S := T; clear T; have F := factsAll HL S; (try simp only [factsOf, cellsFrom, and_true, true_and, Nat.reduceAdd] at F)))
    go_upto_region 2 with (first | (refine wpList_alloc rfl S 31 _ rfl zNd ?_; intro g7 w L hM T; clear F S; (try rw [HL.out] at hM); clear HL; (try simp [Act.put, Act.eval, Value.cells, splice] at hM); have HL := Lib.hid hM; clear hM; have S := T; clear T; have F := factsAll HL S; (try simp only [factsOf, cellsFrom, and_true, true_and, Nat.reduceAdd] at F)) | (refine wpList_store_box rfl S _ _ _ rfl 0 _ _ _ _ (atOf HL rfl) rfl _ rfl (by kernel_rfl) rfl rfl ?_; intro w L hM T; clear F S; (try rw [HL.out] at hM); clear HL; (try simp [Act.put, Act.eval, Value.cells, splice] at hM); have HL := Lib.hid hM; clear hM; have S := T; clear T; have F := factsAll HL S; (try simp only [factsOf, cellsFrom, and_true, true_and, Nat.reduceAdd] at F)))
    go_wp2_with (first | (go_at_call 11; refine (CS _ _ (by exact H.out.at_ S)).mono ?_; rintro e w ⟨rfl, hb⟩; replace S := S.grow hb; clear hb))
    go_loopw [1, 2, 11] (fun r' c' i wr => ∃ (j : Nat) (r1 c1 t m b o : Int) (L : List Ent), j ≤ n ∧ i = .int .i64 j ∧ r' = .int .i64 r1 ∧ c' = .int .i64 c1 ∧ Hid ((1 ≤ r1 ∧ r1 ≤ 5) ∧ (1 ≤ c1 ∧ c1 ≤ 5) ∧ sidesFrom (ls.drop j) r1 c1 = some (x1, x2) ∧ (Need.mk t m b o).add (needsFrom (ls.drop j) r1 c1) = y) ∧ (0 ≤ t ∧ t ≤ 1000 * j) ∧ (0 ≤ m ∧ m ≤ 1000 * j) ∧ (0 ≤ b ∧ b ≤ 1000 * j) ∧ (0 ≤ o ∧ o ≤ 1000 * j) ∧ Hid (L = [.box g7 31 [.int .i64 t, .int .i64 m, .int .i64 b, .int .i64 o], .box g6 31 [.int .i64 0, .int .i64 0, .int .i64 0, .int .i64 0]]) ∧ St w0 wr L) (fun _ _ i _ => n - (intOf i).toNat)
    case atStart => exact ⟨0, r, c, 0, 0, 0, 0, L, Nat.zero_le _, rfl, rfl, rfl, Lib.hid ⟨q1, q2, HS.out, by rw [← HY.out]; simp [Need.add]⟩, by omega, by omega, by omega, by omega, HL, S⟩
    case round =>
      clear S HS HY HL F CS
      obtain ⟨j, r1, c1, t, m, b, o, L, hj, rfl, rfl, rfl, HR, ht, hm, hb, ho, HL, S⟩ := hrel
      have F := factsAll HL S
      simp only [factsOf, cellsFrom, and_true, true_and, Nat.reduceAdd] at F
      obtain ⟨hr1, hc1, hsd, hsum⟩ := HR.out
      by_cases hlt : j < n
      · obtain ⟨b2, off2, rfl, hb2, hc2⟩ := HA.out (by omega)
        obtain ⟨l, hl⟩ := some_at HN.out hlt
        obtain ⟨kind, ms⟩ := l
        obtain ⟨u, a1, a2, hu⟩ := hc2 j _ hl
        dsimp only at a1 a2 hu
        have HU := Lib.hid hu
        obtain ⟨Au, cu, rfl, hcu, hmu, _⟩ := hu
        rw [drop_at hl] at hsd hsum
        obtain ⟨a, d, hok, hs, ha, hd, hrest⟩ := sidesFrom_cons hr1 hc1 hsd
        rw [needsFrom_cons hs] at hsum
        have hab : l16 ⟨kind, ms⟩ r1 c1 = (a, d) := by unfold l16; rw [hok, if_pos rfl, hs]; rfl
        have hbd := Ly.needs_bd hok hr1 hc1
        obtain ⟨⟨zt, zm, zb, zo⟩, hzz⟩ : ∃ z, (Ly.mk kind ms).needs r1 c1 = z := ⟨_, rfl⟩
        rw [hzz] at hsum hbd
        simp only [Need.within] at hbd
        obtain ⟨bt, bm, bb, bo⟩ := hbd
        have HAB := Lib.hid hab
        have HSUM := Lib.hid hsum
        have HREST := Lib.hid hrest
        have HAD := Lib.hid (And.intro ha hd)
        have CL := fun w h => C_l18Layer t m b o r1 c1 kind ms (.slice Au ms.length cu) ⟨zt, zm, zb, zo⟩ w h hok hr1 hc1 ⟨by omega, by omega⟩ ⟨by omega, by omega⟩ ⟨by omega, by omega⟩ ⟨by omega, by omega⟩ hzz
        dsimp only at CL
        have k1 := fun w' L (S' : St w0 w' L) => (S'.below.cell (p := ⟨b2, off2 + j * 2, none⟩) hb2).trans a1
        have k2 := fun w' L (S' : St w0 w' L) => (S'.below.cell (p := ⟨b2, off2 + j * 2 + 1, none⟩) hb2).trans a2
        have HC1 := Lib.hid (And.intro ht (And.intro hm (And.intro hb ho)))
        have HC2 := Lib.hid (And.intro bt (And.intro bm (And.intro bb bo)))
        clear hc2 a1 a2 hl hab HR hsd hsum hok hs ha hd hrest hzz hr1 hc1 bt bm bb bo ht hm hb ho
        have f1 := fun w' (S' : St w0 w' L) => k1 w' L S'
        have f2 := fun w' (S' : St w0 w' L) => k2 w' L S'
        go_wp2
        have HL0 := HL; have F0 := F; refine wp_region_tree (S := fun w' => St w0 w' L) (.calm 0 (.calm 1 (.calm 2 (.calm 3 (.calm 4 (.calm 5 (.calm 6 (.act 7 (.act 8 .fin .stop) .stop)))))))) (by kernel_rfl) (by kernel_rfl) (by kernel_rfl) (by intro c a d v w h; cases d <;> exact h) ?_; replace S := S.drew
        repeat (first | (first | (refine tree_calm (v := ?_) ?_ rfl (by decide +kernel) rfl ?_ ?_; rotate_left; (focus (first | exact S | (refine S.sub (subL HL0 HL ?_); (repeat (first | exact List.Sublist.refl _ | apply List.Sublist.cons)); done))); (focus (intro w' hS'; (try dsimp only at hS'); go_simp; try rfl)); (try simp only [Act.put, List.setIfInBounds_toArray, List.set_cons_zero, List.set_cons_succ])) | (refine tree_any (v := ?_) ?_ rfl rfl ?_ ?_; rotate_left; (focus (first | exact S | (refine S.sub (subL HL0 HL ?_); (repeat (first | exact List.Sublist.refl _ | apply List.Sublist.cons)); done))); (focus (intro w'; go_simp; try rfl)); (try simp only [Act.put, List.setIfInBounds_toArray, List.set_cons_zero, List.set_cons_succ]))) | (refine tree_skip ?_ rfl rfl ?_; (focus (first | exact S | (refine S.sub (subL HL0 HL ?_); (repeat (first | exact List.Sublist.refl _ | apply List.Sublist.cons)); done))); (try simp only [Act.put, List.setIfInBounds_toArray, List.set_cons_zero, List.set_cons_succ])) | (refine tree_act rfl rfl ?_ tree_stop; intro K hK; (refine wp_store_box S _ _ _ rfl 0 _ _ _ _ (atOf HL rfl) rfl _ rfl (by kernel_rfl) rfl rfl ?_; intro w L hM T; clear F S; (try rw [HL.out] at hM); clear HL; (try simp [Act.put, Act.eval, Value.cells, splice] at hM); have HL := Lib.hid hM; clear hM; have S := T; clear T; have F := factsAll HL S; (try simp only [factsOf, cellsFrom, and_true, true_and, Nat.reduceAdd] at F)); (refine hK.out _ _ ?_ ?_; (focus (first | exact fun _ => S | (intro _; refine S.sub (subL HL0 HL ?_); (repeat (first | exact List.Sublist.refl _ | apply List.Sublist.cons)); done) | (refine sink_no ?_; kernel_rfl))); clear hK K; (try simp only [Act.put, List.setIfInBounds_toArray, List.set_cons_zero, List.set_cons_succ]))) | (refine tree_act rfl rfl ?_ tree_stop; intro K hK; go_wp2_with (first | (go_at_call 45; refine (CL _ (by exact HU.out.at_ S)).mono ?_; rintro e w ⟨rfl, hb⟩; replace S := S.grow hb; clear hb)); (refine hK.out _ _ ?_ ?_; (focus (first | exact fun _ => S | (intro _; refine S.sub (subL HL0 HL ?_); (repeat (first | exact List.Sublist.refl _ | apply List.Sublist.cons)); done) | (refine sink_no ?_; kernel_rfl))); clear hK K; (try simp only [Act.put, List.setIfInBounds_toArray, List.set_cons_zero, List.set_cons_succ]))))
        refine tree_fin ?_
        clear f1 f2 HL0 F0
        have f1 := fun w' (S' : St w0 w' L) => k1 w' L S'
        have f2 := fun w' (S' : St w0 w' L) => k2 w' L S'
        go_wp2_with (first | (go_at_call 43; refine (C_l16Sides _ kind ms _ _ a d _ (by exact HU.out.at_ S) HAB.out).mono ?_; rintro e w ⟨rfl, hb⟩; replace S := S.grow hb; clear hb))
        go_roundw
        case rel =>
          obtain ⟨ht, hm, hb, ho⟩ := HC1.out
          obtain ⟨bt, bm, bb, bo⟩ := HC2.out
          refine ⟨j + 1, a, d, t + zt, m + zm, b + zb, o + zo, L, by omega, by go_num, rfl, rfl, Lib.hid ⟨HAD.out.1, HAD.out.2, HREST.out, ?_⟩, by omega, by omega, by omega, by omega, HL, S⟩
          rw [← HSUM.out]
          simp only [Need.add, Need.mk.injEq]
          omega
        case measure => simp [intOf]; omega
      · obtain rfl : j = n := by omega
        rw [List.drop_of_length_le (Nat.le_of_eq HN.out)] at hsum
        have e : Need.mk t m b o = y := by rw [← hsum]; simp [needsFrom, Need.add, Need.zero]
        subst e
        clear hsum hsd
        go_wp2_with (first | (refine wpList_store_box rfl S _ _ _ rfl 0 _ _ _ _ (atOf HL rfl) rfl _ rfl (by kernel_rfl) rfl rfl ?_; intro w L hM T; clear F S; (try rw [HL.out] at hM); clear HL; (try simp [Act.put, Act.eval, Value.cells, splice] at hM); have HL := Lib.hid hM; clear hM; have S := T; clear T; have F := factsAll HL S; (try simp only [factsOf, cellsFrom, and_true, true_and, Nat.reduceAdd] at F)) | (refine wpList_store_box rfl S _ _ _ rfl 1 _ _ _ _ (atOf HL rfl) rfl _ rfl (by kernel_rfl) rfl rfl ?_; intro w L hM T; clear F S; (try rw [HL.out] at hM); clear HL; (try simp [Act.put, Act.eval, Value.cells, splice] at hM); have HL := Lib.hid hM; clear hM; have S := T; clear T; have F := factsAll HL S; (try simp only [factsOf, cellsFrom, and_true, true_and, Nat.reduceAdd] at F)))
        ((try simp only [Exit.inBlock, Exit.then]); refine ret1 rfl (resCell S HL 1 rfl rfl (by kernel_rfl)) rfl ?_)
        exact ⟨rfl, S.below⟩
end Go.Proofs.Ytiiijfhacaomdaa
