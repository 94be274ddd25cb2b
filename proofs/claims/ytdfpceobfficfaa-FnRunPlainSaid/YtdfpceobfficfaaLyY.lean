/-
  Contracts: the sides behind layers, and behind a network (the program's).
-/
import Derived.Test.YtdfpceobfficfaaLyX
namespace Go.Proofs.Ytdfpceobfficfaa
set_option linter.unusedSimpArgs false
set_option linter.unusedVariables false
set_option linter.unusedSectionVars false
open Go Go.RowKit
set_option maxHeartbeats 8000000
set_option maxRecDepth 20000
theorem C_sidesDense (a c b1 b2 r q : Int) (A B : Option Addr) (n n' cap cap' : Nat) (w0 : World) :
    Calls Try.prog 153 #[.agg #[.int .i64 a, .int .i64 c, .slice A n cap, .int .i64 b1, .int .i64 b2, .slice B n' cap'], .int .i64 r, .int .i64 q] w0 fun e w' => e = .returned (.tuple #[.int .i64 a, .int .i64 q, .bool (c == r)]) ∧ Below w0.heap.size w0 w' := by
  obtain ⟨L, HL, S⟩ := st_start w0; have F : True := trivial
  go_enter Try.func153, Try.ntmps153
  go_upto_region 1 with (first | (refine wpList_box rfl S _ _ rfl ?_; intro g w L hM T; clear F S; (try rw [HL.out] at hM); clear HL; (try simp [Act.put, Act.eval, Value.cells, splice] at hM); have HL := Lib.hid hM; clear hM; have S := T; clear T; have F := factsAll HL S; (try simp only [factsOf, cellsFrom, and_true, true_and, Nat.reduceAdd] at F)))
  have HL0 := HL; have F0 := F; refine wp_region_tree (S := fun w' => St w0 w' L) (.calm 0 (.calm 1 (.calm 2 (.calm 3 (.calm 4 (.calm 5 (.calm 6 (.calm 7 (.calm 8 (.calm 9 (.calm 10 (.calm 11 .fin)))))))))))) (by kernel_rfl) (by kernel_rfl) (by kernel_rfl) (by intro c a d v w h; cases d <;> exact h) ?_; replace S := S.drew
  repeat (first | (first | (refine tree_calm (v := ?_) ?_ rfl (by decide +kernel) rfl ?_ ?_; rotate_left; (focus (first | exact S | (refine S.sub (subL HL0 HL ?_); (repeat (first | exact List.Sublist.refl _ | apply List.Sublist.cons)); done))); (focus (intro w' hS'; (try dsimp only at hS'); go_simp; try rfl)); (try simp only [Act.put, List.setIfInBounds_toArray, List.set_cons_zero, List.set_cons_succ])) | (refine tree_any (v := ?_) ?_ rfl rfl ?_ ?_; rotate_left; (focus (first | exact S | (refine S.sub (subL HL0 HL ?_); (repeat (first | exact List.Sublist.refl _ | apply List.Sublist.cons)); done))); (focus (intro w'; go_simp; try rfl)); (try simp only [Act.put, List.setIfInBounds_toArray, List.set_cons_zero, List.set_cons_succ]))) | (refine tree_skip ?_ rfl rfl ?_; (focus (first | exact S | (refine S.sub (subL HL0 HL ?_); (repeat (first | exact List.Sublist.refl _ | apply List.Sublist.cons)); done))); (try simp only [Act.put, List.setIfInBounds_toArray, List.set_cons_zero, List.set_cons_succ])) | (refine tree_act rfl rfl ?_ tree_stop; intro K hK; go_wp2_with (first | fail); (refine hK.out _ _ ?_ ?_; (focus (first | exact fun _ => S | (intro _; refine S.sub (subL HL0 HL ?_); (repeat (first | exact List.Sublist.refl _ | apply List.Sublist.cons)); done) | (refine sink_no ?_; kernel_rfl))); clear hK K; (try simp only [Act.put, List.setIfInBounds_toArray, List.set_cons_zero, List.set_cons_succ]))))
  refine tree_fin ?_
  go_wp2
  refine ret3 rfl (show _ = _ from rfl) (show _ = _ from rfl) (show _ = _ from rfl) rfl ?_
  exact ⟨rfl, S.below⟩
theorem C_sidesRamp (r q : Int) (w0 : World) :
    Calls Try.prog 167 #[.agg #[], .int .i64 r, .int .i64 q] w0 fun e w' => e = .returned (.tuple #[.int .i64 r, .int .i64 q, .bool true]) ∧ Below w0.heap.size w0 w' := by
  obtain ⟨L, HL, S⟩ := st_start w0; have F : True := trivial
  go_enter Try.func167, Try.ntmps167
  go_wp2_with (first | (refine wpList_box rfl S _ _ rfl ?_; intro g w L hM T; clear F S; (try rw [HL.out] at hM); clear HL; (try simp [Act.put, Act.eval, Value.cells, splice] at hM); have HL := Lib.hid hM; clear hM; have S := T; clear T; have F := factsAll HL S; (try simp only [factsOf, cellsFrom, and_true, true_and, Nat.reduceAdd] at F))  | (refine wpList_store_box rfl S _ _ _ rfl 0 _ _ _ _ (atOf HL rfl) rfl _ rfl (by kernel_rfl) rfl rfl ?_; intro w L hM T; clear F S; (try rw [HL.out] at hM); clear HL; (try simp [Act.put, Act.eval, Value.cells, splice] at hM); have HL := Lib.hid hM; clear hM; have S := T; clear T; have F := factsAll HL S; (try simp only [factsOf, cellsFrom, and_true, true_and, Nat.reduceAdd] at F)) | (refine wpList_store_box rfl S _ _ _ rfl 1 _ _ _ _ (atOf HL rfl) rfl _ rfl (by kernel_rfl) rfl rfl ?_; intro w L hM T; clear F S; (try rw [HL.out] at hM); clear HL; (try simp [Act.put, Act.eval, Value.cells, splice] at hM); have HL := Lib.hid hM; clear hM; have S := T; clear T; have F := factsAll HL S; (try simp only [factsOf, cellsFrom, and_true, true_and, Nat.reduceAdd] at F)) | (refine wpList_store_box rfl S _ _ _ rfl 2 _ _ _ _ (atOf HL rfl) rfl _ rfl (by kernel_rfl) rfl rfl ?_; intro w L hM T; clear F S; (try rw [HL.out] at hM); clear HL; (try simp [Act.put, Act.eval, Value.cells, splice] at hM); have HL := Lib.hid hM; clear hM; have S := T; clear T; have F := factsAll HL S; (try simp only [factsOf, cellsFrom, and_true, true_and, Nat.reduceAdd] at F)) | (refine wpList_store_box rfl S _ _ _ rfl 3 _ _ _ _ (atOf HL rfl) rfl _ rfl (by kernel_rfl) rfl rfl ?_; intro w L hM T; clear F S; (try rw [HL.out] at hM); clear HL; (try simp [Act.put, Act.eval, Value.cells, splice] at hM); have HL := Lib.hid hM; clear hM; have S := T; clear T; have F := factsAll HL S; (try simp only [factsOf, cellsFrom, and_true, true_and, Nat.reduceAdd] at F))  )
  refine ret3 rfl (show _ = _ from rfl) (show _ = _ from rfl) (show _ = _ from rfl) rfl ?_
  exact ⟨rfl, S.below⟩
theorem C_sidesMix (v : Value) (m : Mx) (ms : List Mx) (r q : Int) (w0 : World) (h : SeesMs w0 v (m :: ms)) :
    Calls Try.prog 170 #[.agg #[v], .int .i64 r, .int .i64 q] w0 fun e w' => e = .returned (.tuple #[.int .i64 r, .int .i64 q, .bool (m.r == q)]) ∧ Below w0.heap.size w0 w' := by
  obtain ⟨A, cap, rfl, hcap, hmax, hA⟩ := h
  obtain ⟨bl, off, rfl, hbl, hc⟩ := hA (by simp)
  obtain ⟨u, a1, _, _, _⟩ := hc 0 _ rfl
  rw [Nat.zero_mul, Nat.add_zero] at a1
  obtain ⟨n, hn⟩ : ∃ n, (m :: ms).length = n := ⟨_, rfl⟩
  rw [hn] at hcap ⊢
  have hn0 : 0 < n := by rw [← hn]; simp
  unfold maxLen at hmax
  clear hc hA hn
  obtain ⟨L, HL, S⟩ := st_start w0; have F : True := trivial
  go_enter Try.func170, Try.ntmps170
  go_upto_region 1 with (first | (refine wpList_box rfl S _ _ rfl ?_; intro g w L hM T; clear F S; (try rw [HL.out] at hM); clear HL; (try simp [Act.put, Act.eval, Value.cells, splice] at hM); have HL := Lib.hid hM; clear hM; have S := T; clear T; have F := factsAll HL S; (try simp only [factsOf, cellsFrom, and_true, true_and, Nat.reduceAdd] at F)))
  have q1 := fun w' (S' : St w0 w' L) => (S'.below.cell (p := ⟨bl, off, none⟩) hbl).trans a1
  have HL0 := HL; have F0 := F; refine wp_region_tree (S := fun w' => St w0 w' L) (.calm 0 (.calm 1 (.calm 2 (.calm 3 (.calm 4 (.calm 5 (.calm 6 (.calm 7 (.calm 8 (.calm 9 (.calm 10 (.calm 11 .fin)))))))))))) (by kernel_rfl) (by kernel_rfl) (by kernel_rfl) (by intro c a d v w h; cases d <;> exact h) ?_; replace S := S.drew
  repeat (first | (first | (refine tree_calm (v := ?_) ?_ rfl (by decide +kernel) rfl ?_ ?_; rotate_left; (focus (first | exact S | (refine S.sub (subL HL0 HL ?_); (repeat (first | exact List.Sublist.refl _ | apply List.Sublist.cons)); done))); (focus (intro w' hS'; (try dsimp only at hS'); go_simp; try rfl)); (try simp only [Act.put, List.setIfInBounds_toArray, List.set_cons_zero, List.set_cons_succ])) | (refine tree_any (v := ?_) ?_ rfl rfl ?_ ?_; rotate_left; (focus (first | exact S | (refine S.sub (subL HL0 HL ?_); (repeat (first | exact List.Sublist.refl _ | apply List.Sublist.cons)); done))); (focus (intro w'; go_simp; try rfl)); (try simp only [Act.put, List.setIfInBounds_toArray, List.set_cons_zero, List.set_cons_succ]))) | (refine tree_skip ?_ rfl rfl ?_; (focus (first | exact S | (refine S.sub (subL HL0 HL ?_); (repeat (first | exact List.Sublist.refl _ | apply List.Sublist.cons)); done))); (try simp only [Act.put, List.setIfInBounds_toArray, List.set_cons_zero, List.set_cons_succ])) | (refine tree_act rfl rfl ?_ tree_stop; intro K hK; go_wp2_with (first | fail); (refine hK.out _ _ ?_ ?_; (focus (first | exact fun _ => S | (intro _; refine S.sub (subL HL0 HL ?_); (repeat (first | exact List.Sublist.refl _ | apply List.Sublist.cons)); done) | (refine sink_no ?_; kernel_rfl))); clear hK K; (try simp only [Act.put, List.setIfInBounds_toArray, List.set_cons_zero, List.set_cons_succ]))))
  refine tree_fin ?_
  go_wp2
  refine ret3 rfl (show _ = _ from rfl) (show _ = _ from rfl) (show _ = _ from rfl) rfl ?_
  exact ⟨rfl, S.below⟩
theorem m_sidesDense (a c b1 b2 : Int) (A B : Option Addr) (n n' cap cap' : Nat) (w : World) : (method 281 113 (.agg #[.int .i64 a, .int .i64 c, .slice A n cap, .int .i64 b1, .int .i64 b2, .slice B n' cap']) "loop.example/sharedinference/impl.sides").run Try.prog w = .ok (153, .agg #[.int .i64 a, .int .i64 c, .slice A n cap, .int .i64 b1, .int .i64 b2, .slice B n' cap']) w := by kernel_rfl
theorem m_sidesRamp  (w : World) : (method 281 115 (.agg #[]) "loop.example/sharedinference/impl.sides").run Try.prog w = .ok (167, .agg #[]) w := by kernel_rfl
theorem m_sidesMix (A : Option Addr) (n cap : Nat) (w : World) : (method 281 118 (.agg #[.slice A n cap]) "loop.example/sharedinference/impl.sides").run Try.prog w = .ok (170, .agg #[.slice A n cap]) w := by kernel_rfl
theorem sidesFrom_bad : ∀ (ls : List Ly) (r c : Int), ls.all Ly.ok = false → sidesFrom ls r c = none
  | [], _, _, h => by simp at h
  | l :: ls, r, c, h => by
    unfold sidesFrom
    split
    · rename_i hl
      rw [List.all_cons, hl, Bool.true_and] at h
      split
      · exact sidesFrom_bad ls _ _ h
      · rfl
    · rfl
theorem C_impl_NetSides (v : Value) (ls : List Ly) (r c : Int) (z : Option (Int × Int)) (w0 : World) (h : SeesLs w0 v ls) (hz : netSides ls r c = z) :
    Calls Try.prog 32 #[v, .int .i64 r, .int .i64 c] w0 fun e w' => e = .returned (sidesRes z) ∧ Below w0.heap.size w0 w' := by
  have H := Lib.hid h
  obtain ⟨A, cap, rfl, hcap, hmax, _⟩ := h
  have hz' : (if decide (ls.length ≤ 4) && sideOk r && sideOk c then sidesFrom ls r c else none) = z := hz
  clear hz
  cases h1 : sideOk r with
  | false =>
    obtain rfl : z = none := by rw [← hz', h1]; simp
    clear hz'
    obtain ⟨L, HL, S⟩ := st_start w0; have F : True := trivial
    go_enter Try.func32, Try.ntmps32
    go_wp2_with (first | (refine wpList_box rfl S _ _ rfl ?_; intro g w L hM T; clear F S; (try rw [HL.out] at hM); clear HL; (try simp [Act.put, Act.eval, Value.cells, splice] at hM); have HL := Lib.hid hM; clear hM; have S := T; clear T; have F := factsAll HL S; (try simp only [factsOf, cellsFrom, and_true, true_and, Nat.reduceAdd] at F))  | (refine wpList_store_box rfl S _ _ _ rfl 0 _ _ _ _ (atOf HL rfl) rfl _ rfl (by kernel_rfl) rfl rfl ?_; intro w L hM T; clear F S; (try rw [HL.out] at hM); clear HL; (try simp [Act.put, Act.eval, Value.cells, splice] at hM); have HL := Lib.hid hM; clear hM; have S := T; clear T; have F := factsAll HL S; (try simp only [factsOf, cellsFrom, and_true, true_and, Nat.reduceAdd] at F)) | (refine wpList_store_box rfl S _ _ _ rfl 1 _ _ _ _ (atOf HL rfl) rfl _ rfl (by kernel_rfl) rfl rfl ?_; intro w L hM T; clear F S; (try rw [HL.out] at hM); clear HL; (try simp [Act.put, Act.eval, Value.cells, splice] at hM); have HL := Lib.hid hM; clear hM; have S := T; clear T; have F := factsAll HL S; (try simp only [factsOf, cellsFrom, and_true, true_and, Nat.reduceAdd] at F)) | (refine wpList_store_box rfl S _ _ _ rfl 2 _ _ _ _ (atOf HL rfl) rfl _ rfl (by kernel_rfl) rfl rfl ?_; intro w L hM T; clear F S; (try rw [HL.out] at hM); clear HL; (try simp [Act.put, Act.eval, Value.cells, splice] at hM); have HL := Lib.hid hM; clear hM; have S := T; clear T; have F := factsAll HL S; (try simp only [factsOf, cellsFrom, and_true, true_and, Nat.reduceAdd] at F)) | (refine wpList_store_box rfl S _ _ _ rfl 3 _ _ _ _ (atOf HL rfl) rfl _ rfl (by kernel_rfl) rfl rfl ?_; intro w L hM T; clear F S; (try rw [HL.out] at hM); clear HL; (try simp [Act.put, Act.eval, Value.cells, splice] at hM); have HL := Lib.hid hM; clear hM; have S := T; clear T; have F := factsAll HL S; (try simp only [factsOf, cellsFrom, and_true, true_and, Nat.reduceAdd] at F))  | (go_at_call 71; refine (C_sideValid' _ _ _ (by exact h1)).mono ?_; rintro e w' ⟨rfl, rfl⟩))
    refine ret3 rfl (show _ = _ from rfl) (show _ = _ from rfl) (show _ = _ from rfl) rfl ?_
    exact ⟨rfl, S.below⟩
  | true =>
    cases h2 : sideOk c with
    | false =>
      obtain rfl : z = none := by rw [← hz', h2]; simp
      clear hz'
      obtain ⟨L, HL, S⟩ := st_start w0; have F : True := trivial
      go_enter Try.func32, Try.ntmps32
      go_wp2_with (first | (refine wpList_box rfl S _ _ rfl ?_; intro g w L hM T; clear F S; (try rw [HL.out] at hM); clear HL; (try simp [Act.put, Act.eval, Value.cells, splice] at hM); have HL := Lib.hid hM; clear hM; have S := T; clear T; have F := factsAll HL S; (try simp only [factsOf, cellsFrom, and_true, true_and, Nat.reduceAdd] at F))  | (refine wpList_store_box rfl S _ _ _ rfl 0 _ _ _ _ (atOf HL rfl) rfl _ rfl (by kernel_rfl) rfl rfl ?_; intro w L hM T; clear F S; (try rw [HL.out] at hM); clear HL; (try simp [Act.put, Act.eval, Value.cells, splice] at hM); have HL := Lib.hid hM; clear hM; have S := T; clear T; have F := factsAll HL S; (try simp only [factsOf, cellsFrom, and_true, true_and, Nat.reduceAdd] at F)) | (refine wpList_store_box rfl S _ _ _ rfl 1 _ _ _ _ (atOf HL rfl) rfl _ rfl (by kernel_rfl) rfl rfl ?_; intro w L hM T; clear F S; (try rw [HL.out] at hM); clear HL; (try simp [Act.put, Act.eval, Value.cells, splice] at hM); have HL := Lib.hid hM; clear hM; have S := T; clear T; have F := factsAll HL S; (try simp only [factsOf, cellsFrom, and_true, true_and, Nat.reduceAdd] at F)) | (refine wpList_store_box rfl S _ _ _ rfl 2 _ _ _ _ (atOf HL rfl) rfl _ rfl (by kernel_rfl) rfl rfl ?_; intro w L hM T; clear F S; (try rw [HL.out] at hM); clear HL; (try simp [Act.put, Act.eval, Value.cells, splice] at hM); have HL := Lib.hid hM; clear hM; have S := T; clear T; have F := factsAll HL S; (try simp only [factsOf, cellsFrom, and_true, true_and, Nat.reduceAdd] at F)) | (refine wpList_store_box rfl S _ _ _ rfl 3 _ _ _ _ (atOf HL rfl) rfl _ rfl (by kernel_rfl) rfl rfl ?_; intro w L hM T; clear F S; (try rw [HL.out] at hM); clear HL; (try simp [Act.put, Act.eval, Value.cells, splice] at hM); have HL := Lib.hid hM; clear hM; have S := T; clear T; have F := factsAll HL S; (try simp only [factsOf, cellsFrom, and_true, true_and, Nat.reduceAdd] at F))  | (go_at_call 71; refine (C_sideValid' _ _ _ (by first | exact h1 | exact h2)).mono ?_; rintro e w' ⟨rfl, rfl⟩))
      refine ret3 rfl (show _ = _ from rfl) (show _ = _ from rfl) (show _ = _ from rfl) rfl ?_
      exact ⟨rfl, S.below⟩
    | true =>
      rw [h1, h2, Bool.and_true, Bool.and_true] at hz'
      have q1 := sideOk_iff.1 h1
      have q2 := sideOk_iff.1 h2
      have H1 := Lib.hid h1
      have H2 := Lib.hid h2
      obtain ⟨b, hb⟩ : ∃ b, (decide (ls.length ≤ 4) && ls.all Ly.ok) = b := ⟨_, rfl⟩
      have HB := Lib.hid hb
      have HZ := Lib.hid hz'
      clear h1 h2 hz' hb
      obtain ⟨L, HL, S⟩ := st_start w0; have F : True := trivial
      go_enter Try.func32, Try.ntmps32
      go_upto_region 4 with (first | (go_at_call 71; refine (C_sideValid' _ _ _ (by first | exact H1.out | exact H2.out)).mono ?_; rintro e w' ⟨rfl, rfl⟩) | (go_at_call 44; refine (C_layersOf _ ls b _ (H.out.at_ S) HB.out).mono ?_; rintro e w1 ⟨u, cs, rfl, hcs1, hcs0, hif, hB, hS⟩; have hb1 := S.below.trans (hB.mono S.below.size); clear S HL F; have HIF := Lib.hid hif; have HS1 := Lib.hid hcs1; have HS0 := Lib.hid hcs0; clear hif hcs1 hcs0; obtain ⟨L, HL, S⟩ := st_start w1; have F : True := trivial))
      obtain ⟨_, A2, cap2, rfl, hcap2, hmax2, hA2⟩ := hS
      obtain ⟨m, hm⟩ : ∃ m, cs.length = m := ⟨_, rfl⟩
      rw [hm] at hcap2 hA2 HS1 HS0 ⊢
      have HM := Lib.hid hm
      have HA2 := Lib.hid hA2
      unfold maxLen at hmax2
      clear hm hA2 hB hcap hmax
      go_wp2
      go_loopw [1, 2, 10, 28] (fun r' c' ok i wr => ∃ (j : Nat) (r1 c1 : Int) (o : Bool), j ≤ m ∧ i = .int .i64 j ∧ r' = .int .i64 r1 ∧ c' = .int .i64 c1 ∧ ok = .bool o ∧ Hid ((o = true → (1 ≤ r1 ∧ r1 ≤ 5) ∧ (1 ≤ c1 ∧ c1 ≤ 5) ∧ b = true ∧ sidesFrom (ls.drop j) r1 c1 = z) ∧ (o = false → z = none)) ∧ St w1 wr []) (fun _ _ _ i _ => m - (intOf i).toNat)
      case atStart =>
        refine ⟨0, r, c, b, Nat.zero_le _, rfl, rfl, rfl, rfl, Lib.hid ⟨fun h => ?_, fun h => ?_⟩, St.refl _⟩
        · subst h
          have hb := HB.out
          have hz := HZ.out
          simp only [Bool.and_eq_true, decide_eq_true_eq] at hb
          rw [if_pos (by simp [hb.1])] at hz
          exact ⟨q1, q2, rfl, hz⟩
        · subst h
          have hb := HB.out
          have hz := HZ.out
          by_cases h4 : ls.length ≤ 4
          · rw [decide_eq_true h4, Bool.true_and] at hb
            rw [← hz, sidesFrom_bad _ _ _ hb]
            simp
          · rw [← hz, if_neg (by simp [h4])]
      case round =>
        clear HL S F HZ H1 H2
        obtain ⟨j, r1, c1, o, hj, rfl, rfl, rfl, rfl, HR, S0⟩ := hrel
        obtain ⟨L, HL, S⟩ := st_name S0
        replace HL := Lib.hid HL
        clear S0
        have F : True := trivial
        by_cases hlt : j < m
        · obtain ⟨b2, off2, rfl, hb2, hc2⟩ := HA2.out (by omega)
          obtain rfl : b = true := by
            cases hbb : b with
            | true => rfl
            | false => have := HS0.out hbb; omega
          have hml := HS1.out rfl
          obtain ⟨l, hl⟩ := some_at hml.symm hlt
          obtain ⟨x, hx⟩ := some_at HM.out hlt
          have hif := HIF.out j l x hl hx
          have hcell := fun w' (S' : St w1 w' L) => (S'.below.cell (p := ⟨b2, off2 + j, none⟩) hb2).trans (hc2 j x hx)
          have hok : l.ok = true := by
            have hb := HB.out
            simp only [Bool.and_eq_true, List.all_eq_true] at hb
            exact hb.2 l (List.mem_of_getElem? hl)
          clear hc2 hml
          cases o with
          | true =>
            obtain ⟨⟨r2, r3⟩, ⟨c2, c3⟩, _, hz⟩ := HR.out.1 rfl
            rw [drop_at hl] at hz
            unfold sidesFrom at hz
            rw [if_pos hok] at hz
            have HZ := Lib.hid hz
            clear hz
            cases Ly.ok_case hok with
            | dense wm d hd =>
              obtain ⟨u, v, rfl, hu, hv⟩ := hif
              obtain ⟨_, Au, cu, rfl, _⟩ := hu
              obtain ⟨_, Av, cv, rfl, _⟩ := hv
              have hm := m_sidesDense wm.r wm.c d.r d.c Au Av wm.xs.length d.xs.length cu cv
              go_wp2_with (first | (go_at_call 153; refine (C_sidesDense _ _ _ _ _ _ _ _ _ _ _ _ _).mono ?_; rintro e w ⟨rfl, hb⟩; replace S := S.grow hb; clear hb))
              go_roundw
              case rel =>
                simp only [denseFit, Bool.and_eq_true] at hd
                have hs := Mx.ok_sides hd.1.1.1
                have hz := HZ.out
                simp only [Ly.sides] at hz
                refine ⟨j + 1, wm.r, c1, (wm.c == r1), by omega, by go_num, rfl, rfl, rfl, Lib.hid ⟨fun h => ?_, fun h => ?_⟩, S.sub (List.nil_sublist _)⟩
                · rw [beq_iff_eq] at h
                  rw [if_pos h] at hz
                  exact ⟨hs.1, ⟨c2, c3⟩, by first | rfl | trivial, hz⟩
                · rw [beq_eq_false_iff_ne] at h
                  rw [if_neg h] at hz
                  exact hz.symm
              case measure => simp [intOf]; omega
            | ramp =>
              obtain rfl : x = _ := hif
              have hm := m_sidesRamp
              go_wp2_with (first | (go_at_call 167; refine (C_sidesRamp _ _ _).mono ?_; rintro e w ⟨rfl, hb⟩; replace S := S.grow hb; clear hb))
              go_roundw
              case rel =>
                exact ⟨j + 1, r1, c1, true, by omega, by go_num, rfl, rfl, rfl, Lib.hid ⟨fun _ => ⟨⟨r2, r3⟩, ⟨c2, c3⟩, by first | rfl | trivial, HZ.out⟩, fun h => absurd h (by simp)⟩, S.sub (List.nil_sublist _)⟩
              case measure => simp [intOf]; omega
            | mix x1 x2 x3 hd =>
              obtain ⟨u, rfl, hu⟩ := hif
              have HU := Lib.hid hu
              obtain ⟨Au, cu, rfl, _⟩ := hu
              simp only [List.length_cons, List.length_nil, Nat.zero_add, Nat.reduceAdd] at HU hcell
              have hm := m_sidesMix Au 3 cu
              go_wp2_with (first | (go_at_call 170; refine (C_sidesMix _ x1 [x2, x3] _ _ _ (HU.out.below (hb1.trans (S.below.mono hb1.size)))).mono ?_; rintro e w ⟨rfl, hb⟩; replace S := S.grow hb; clear hb))
              go_roundw
              case rel =>
                have hz := HZ.out
                simp only [Ly.sides] at hz
                refine ⟨j + 1, r1, c1, (x1.r == c1), by omega, by go_num, rfl, rfl, rfl, Lib.hid ⟨fun h => ?_, fun h => ?_⟩, S.sub (List.nil_sublist _)⟩
                · rw [beq_iff_eq] at h
                  rw [if_pos h] at hz
                  exact ⟨⟨r2, r3⟩, ⟨c2, c3⟩, by first | rfl | trivial, hz⟩
                · rw [beq_eq_false_iff_ne] at h
                  rw [if_neg h] at hz
                  exact hz.symm
              case measure => simp [intOf]; omega
          | false =>
            go_wp2
            go_roundw
            case rel => exact ⟨j + 1, r1, c1, false, by omega, by go_num, rfl, rfl, rfl, Lib.hid ⟨fun h => absurd h (by simp), HR.out.2⟩, S.sub (List.nil_sublist _)⟩
            case measure => simp [intOf]; omega
        · obtain rfl : j = m := by omega
          have hb2 := hb1.trans (S.below.mono hb1.size)
          cases o with
          | true =>
            obtain ⟨_, _, hbt, hz⟩ := HR.out.1 rfl
            rw [List.drop_of_length_le (Nat.le_of_eq (HS1.out hbt).symm)] at hz
            unfold sidesFrom at hz
            subst hz
            go_wp2
            refine ret3 rfl (show _ = _ from rfl) (show _ = _ from rfl) (show _ = _ from rfl) rfl ?_
            exact ⟨rfl, hb2⟩
          | false =>
            obtain rfl := HR.out.2 rfl
            go_wp2
            refine ret3 rfl (show _ = _ from rfl) (show _ = _ from rfl) (show _ = _ from rfl) rfl ?_
            exact ⟨rfl, hb2⟩
end Go.Proofs.Ytdfpceobfficfaa
