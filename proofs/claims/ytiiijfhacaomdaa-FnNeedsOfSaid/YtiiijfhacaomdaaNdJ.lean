/-
  Contracts: what networks need (the program's).
-/
import Derived.Test.YtiiijfhacaomdaaNdI
import Derived.Test.YtiiijfhacaomdaaLyZ
namespace Go.Proofs.Ytiiijfhacaomdaa
set_option linter.unusedSimpArgs false
set_option linter.unusedVariables false
set_option linter.unusedSectionVars false
open Go Go.RowKit
set_option maxHeartbeats 8000000
set_option maxRecDepth 20000
theorem m_needsDense (a c b1 b2 : Int) (A B : Option Addr) (n n' cap cap' : Nat) (w : World) : (method 279 117 (.agg #[.int .i64 a, .int .i64 c, .slice A n cap, .int .i64 b1, .int .i64 b2, .slice B n' cap']) "loop.example/sharedinference/impl.needs").run Try.prog w = .ok (141, .agg #[.int .i64 a, .int .i64 c, .slice A n cap, .int .i64 b1, .int .i64 b2, .slice B n' cap']) w := by kernel_rfl
theorem m_needsRamp  (w : World) : (method 279 119 (.agg #[]) "loop.example/sharedinference/impl.needs").run Try.prog w = .ok (146, .agg #[]) w := by kernel_rfl
theorem m_needsMix (A : Option Addr) (n cap : Nat) (w : World) : (method 279 122 (.agg #[.slice A n cap]) "loop.example/sharedinference/impl.needs").run Try.prog w = .ok (149, .agg #[.slice A n cap]) w := by kernel_rfl
theorem sidesFrom_all : ∀ (ls : List Ly) (r c : Int) (x : Int × Int), sidesFrom ls r c = some x → ls.all Ly.ok = true
  | [], _, _, _, _ => rfl
  | l :: ls, r, c, x, h => by
    unfold sidesFrom at h
    split at h
    · rename_i hok
      split at h
      · rw [List.all_cons, hok, sidesFrom_all ls _ _ _ h]; rfl
      · cases h
    · cases h
theorem C_impl_NeedsOf (v : Value) (ls : List Ly) (r c : Int) (y : Need) (w0 : World) (h : SeesLs w0 v ls) (hy : netNeeds ls r c = y) :
    Calls Try.prog 14 #[v, .int .i64 r, .int .i64 c] w0 fun e w' => e = .returned (.agg #[.int .i64 y.t, .int .i64 y.m, .int .i64 y.b, .int .i64 y.o]) ∧ Below w0.heap.size w0 w' := by
  have H := Lib.hid h
  obtain ⟨A, cap, rfl, hcap, hmax, _⟩ := h
  obtain ⟨z, hz⟩ : ∃ z, netSides ls r c = z := ⟨_, rfl⟩
  have HZ := Lib.hid hz
  have CS := fun v w h => C_impl_NetSides v ls r c z w h HZ.out
  unfold netNeeds at hy
  rw [hz] at hy
  cases z with
  | none =>
    subst hy
    clear hz
    unfold sidesRes at CS
    obtain ⟨L, HL, S⟩ := st_start w0; have F : True := trivial
    go_enter Try.func14, Try.ntmps14
    go_wp2_with (first | (refine wpList_box rfl S _ _ rfl ?_; intro g w L hM T; clear F S; (try rw [HL.out] at hM); clear HL; (try simp [Act.put, Act.eval, Value.cells, splice] at hM); have HL := Lib.hid hM; clear hM; have S := T; clear T; have F := factsAll HL S; (try simp only [factsOf, cellsFrom, and_true, true_and, Nat.reduceAdd] at F)) | (refine wpList_alloc rfl S 31 _ rfl zNd ?_; intro g w L hM T; clear F S; (try rw [HL.out] at hM); clear HL; (try simp [Act.put, Act.eval, Value.cells, splice] at hM); have HL := Lib.hid hM; clear hM; have S := T; clear T; have F := factsAll HL S; (try simp only [factsOf, cellsFrom, and_true, true_and, Nat.reduceAdd] at F)) | (refine wpList_store_box rfl S _ _ _ rfl 0 _ _ _ _ (atOf HL rfl) rfl _ rfl (by kernel_rfl) rfl rfl ?_; intro w L hM T; clear F S; (try rw [HL.out] at hM); clear HL; (try simp [Act.put, Act.eval, Value.cells, splice] at hM); have HL := Lib.hid hM; clear hM; have S := T; clear T; have F := factsAll HL S; (try simp only [factsOf, cellsFrom, and_true, true_and, Nat.reduceAdd] at F)) | (refine wpList_store_box rfl S _ _ _ rfl 1 _ _ _ _ (atOf HL rfl) rfl _ rfl (by kernel_rfl) rfl rfl ?_; intro w L hM T; clear F S; (try rw [HL.out] at hM); clear HL; (try simp [Act.put, Act.eval, Value.cells, splice] at hM); have HL := Lib.hid hM; clear hM; have S := T; clear T; have F := factsAll HL S; (try simp only [factsOf, cellsFrom, and_true, true_and, Nat.reduceAdd] at F)) | (refine wpList_store_box rfl S _ _ _ rfl 2 _ _ _ _ (atOf HL rfl) rfl _ rfl (by kernel_rfl) rfl rfl ?_; intro w L hM T; clear F S; (try rw [HL.out] at hM); clear HL; (try simp [Act.put, Act.eval, Value.cells, splice] at hM); have HL := Lib.hid hM; clear hM; have S := T; clear T; have F := factsAll HL S; (try simp only [factsOf, cellsFrom, and_true, true_and, Nat.reduceAdd] at F)) | (refine wpList_store_box rfl S _ _ _ rfl 3 _ _ _ _ (atOf HL rfl) rfl _ rfl (by kernel_rfl) rfl rfl ?_; intro w L hM T; clear F S; (try rw [HL.out] at hM); clear HL; (try simp [Act.put, Act.eval, Value.cells, splice] at hM); have HL := Lib.hid hM; clear hM; have S := T; clear T; have F := factsAll HL S; (try simp only [factsOf, cellsFrom, and_true, true_and, Nat.reduceAdd] at F))  | (go_at_call 10; refine (CS _ _ (H.out.at_ S)).mono ?_; rintro e w ⟨rfl, hb⟩; replace S := S.grow hb; clear hb))
    ((try simp only [Exit.inBlock, Exit.then]); refine ret1 rfl (resCell S HL 0 rfl rfl (by kernel_rfl)) rfl ?_)
    exact ⟨rfl, S.below⟩
  | some x =>
    obtain ⟨x1, x2⟩ := x
    dsimp only at hy
    unfold sidesRes at CS
    dsimp only at CS
    obtain ⟨h4, q1, q2, hs⟩ := netSides_some hz
    have hball : (decide (ls.length ≤ 4) && ls.all Ly.ok) = true := by rw [decide_eq_true h4, sidesFrom_all _ _ _ _ hs]; rfl
    have HBALL := Lib.hid hball
    obtain ⟨n, hn⟩ : ∃ n, ls.length = n := ⟨_, rfl⟩
    rw [hn] at hcap h4 H ⊢
    have HN := Lib.hid hn
    have HS := Lib.hid hs
    have HY := Lib.hid hy
    clear hz hn hs hy HZ hball
    unfold maxLen at hmax
    obtain ⟨L, HL, S⟩ := st_start w0; have F : True := trivial
    go_enter Try.func14, Try.ntmps14
    go_upto_region 1 with (first | (refine wpList_alloc rfl S 31 _ rfl zNd ?_; intro g6 w L hM T; clear F S; (try rw [HL.out] at hM); clear HL; (try simp [Act.put, Act.eval, Value.cells, splice] at hM); have HL := Lib.hid hM; clear hM; have S := T; clear T; have F := factsAll HL S; (try simp only [factsOf, cellsFrom, and_true, true_and, Nat.reduceAdd] at F)))
    go_upto_region 5 with (first | (go_at_call 10; refine (CS _ _ (by exact H.out.at_ S)).mono ?_; rintro e w ⟨rfl, hb⟩; replace S := S.grow hb; clear hb) | (go_at_call 41; refine (C_layersOfOwn _ ls true w0 _ S.below (by exact H.out) HBALL.out).mono ?_; rintro e w ⟨u, cs, rfl, hcs1, _, hif, T0⟩; obtain ⟨L, hM, T⟩ := st_name (S.call T0); clear T0; have HIF := Lib.hid hif; have HCS := Lib.hid ((hcs1 rfl).trans HN.out); clear hif hcs1; rw [HCS.out] at hM; clear F S; (try rw [HL.out] at hM); clear HL; (try simp [Act.put, Act.eval, Value.cells, splice] at hM); have HL := Lib.hid hM; clear hM; have S := T; clear T; have F := factsAll HL S; (try simp only [factsOf, cellsFrom, and_true, true_and, Nat.reduceAdd] at F); obtain ⟨A', cap', rfl, hcap', hmax'⟩ := S.sliceOf (atOf HL (p := 0) rfl)))
    go_upto_region 6 with (first | (refine wpList_alloc rfl S 31 _ rfl zNd ?_; intro g7 w L hM T; clear F S; (try rw [HL.out] at hM); clear HL; (try simp [Act.put, Act.eval, Value.cells, splice] at hM); have HL := Lib.hid hM; clear hM; have S := T; clear T; have F := factsAll HL S; (try simp only [factsOf, cellsFrom, and_true, true_and, Nat.reduceAdd] at F)))
    go_wp2
    go_loopw [1, 2, 33] (fun r' c' i wr => ∃ (j : Nat) (r1 c1 t m b o : Int) (L : List Ent), j ≤ n ∧ i = .int .i64 j ∧ r' = .int .i64 r1 ∧ c' = .int .i64 c1 ∧ Hid ((1 ≤ r1 ∧ r1 ≤ 5) ∧ (1 ≤ c1 ∧ c1 ≤ 5) ∧ sidesFrom (ls.drop j) r1 c1 = some (x1, x2) ∧ (Need.mk t m b o).add (needsFrom (ls.drop j) r1 c1) = y) ∧ (0 ≤ t ∧ t ≤ 1000 * j) ∧ (0 ≤ m ∧ m ≤ 1000 * j) ∧ (0 ≤ b ∧ b ≤ 1000 * j) ∧ (0 ≤ o ∧ o ≤ 1000 * j) ∧ Hid (L = [.box g7 31 [.int .i64 t, .int .i64 m, .int .i64 b, .int .i64 o], .row 71 1 (.slice A' n cap') n cs, .box g6 31 [.int .i64 0, .int .i64 0, .int .i64 0, .int .i64 0]]) ∧ St w0 wr L) (fun _ _ i _ => n - (intOf i).toNat)
    case atStart => exact ⟨0, r, c, 0, 0, 0, 0, L, Nat.zero_le _, rfl, rfl, rfl, Lib.hid ⟨q1, q2, HS.out, by rw [← HY.out]; simp [Need.add]⟩, by omega, by omega, by omega, by omega, HL, S⟩
    case round =>
      clear S HS HY HL F CS
      obtain ⟨j, r1, c1, t, m, b, o, L, hj, rfl, rfl, rfl, HR, ht, hm, hb, ho, HL, S⟩ := hrel
      have F := factsAll HL S
      simp only [factsOf, cellsFrom, and_true, true_and, Nat.reduceAdd] at F
      obtain ⟨hr1, hc1, hsd, hsum⟩ := HR.out
      by_cases hlt : j < n
      · rcases S.rowShape (atOf HL (p := 1) rfl) with ⟨_, h0⟩ | ⟨gr, cr, he, _, _⟩
        · omega
        simp only [Value.slice.injEq, true_and] at he
        obtain ⟨rfl, rfl⟩ := he
        obtain ⟨l, hl⟩ := some_at HN.out hlt
        obtain ⟨x, hx⟩ := some_at HCS.out hlt
        have hif := HIF.out j l x hl hx
        have hcell := fun w' (S' : St w0 w' L) => (S'.rowCell (atOf HL (p := 1) rfl) j (by omega)).trans hx
        rw [drop_at hl] at hsd hsum
        obtain ⟨a, d', hok, hs, ha, hd, hrest⟩ := sidesFrom_cons hr1 hc1 hsd
        rw [needsFrom_cons hs] at hsum
        have HREST := Lib.hid hrest
        have HAD := Lib.hid (And.intro ha hd)
        clear HR ha hd hrest
        have p1 := prod_bd hr1 hc1
        have p2 := prod_bd hr1 hr1
        have p3 := prod_bd hc1 hc1
        obtain ⟨p, e1⟩ : ∃ p, r1 * c1 = p := ⟨_, rfl⟩
        rw [e1] at p1
        cases Ly.ok_case hok with
        | dense wm d hd =>
              simp only [denseFit, Bool.and_eq_true] at hd
              have hsi := Mx.ok_sides hd.1.1.1
              have p4 := prod_bd hsi.1 hc1
              have p5 := prod_bd hsi.1 hr1
              obtain ⟨p6, e2⟩ : ∃ p, wm.r * c1 = p := ⟨_, rfl⟩
              obtain ⟨p7, e3⟩ : ∃ p, wm.r * r1 = p := ⟨_, rfl⟩
              rw [e2] at p4
              rw [e3] at p5
              have hz4 : (Ly.mk 1 [wm, d]).needs r1 c1 = ⟨0, 1, p6, p7 + p + p6⟩ := by simp only [Ly.needs, prodNeed, e1, e2, e3]
              have had : a = wm.r ∧ d' = c1 := by
                simp only [Ly.sides] at hs
                split at hs
                · injection hs with hs
                  injection hs with h1 h2
                  exact ⟨h1.symm, h2.symm⟩
                · cases hs
              obtain ⟨rfl, rfl⟩ := had
              obtain ⟨u, v, rfl, hu, hv⟩ := hif
              obtain ⟨_, Au, cu, rfl, _⟩ := hu
              obtain ⟨_, Av, cv, rfl, _⟩ := hv
              have HE := Lib.hid (And.intro e1 (And.intro e2 e3))
              have hm1' := m_needsDense wm.r wm.c d.r d.c Au Av wm.xs.length d.xs.length cu cv
              have hm2' := m_sidesDense wm.r wm.c d.r d.c Au Av wm.xs.length d.xs.length cu cv
              have hbd := Ly.needs_bd hok hr1 hc1
              rw [hz4] at hsum hbd
              simp only [Need.within] at hbd
              obtain ⟨⟨bt1, bt2⟩, ⟨bm1, bm2⟩, ⟨bb1, bb2⟩, bo1, bo2⟩ := hbd
              obtain ⟨⟨ht1, ht2⟩, ⟨hm1, hm2⟩, ⟨hb1, hb2⟩, ho1, ho2⟩ := And.intro ht (And.intro hm (And.intro hb ho))
              have HSUM := Lib.hid hsum
              clear hsum hok hs hsd ht hm hb ho hl hx e1 e2 e3
              go_wp2
              have HL0 := HL; have F0 := F; refine wp_region_tree (S := fun w' => St w0 w' L) (.calm 0 (.calm 1 (.calm 2 (.calm 3 (.act 4 (.act 5 (.act 6 .fin .stop) .stop) .stop))))) (by kernel_rfl) (by kernel_rfl) (by kernel_rfl) (by intro c a d v w h; cases d <;> exact h) ?_; replace S := S.drew
              repeat (first | (first | (refine tree_calm (v := ?_) ?_ rfl (by decide +kernel) rfl ?_ ?_; rotate_left; (focus (first | exact S | (refine S.sub (subL HL0 HL ?_); (repeat (first | exact List.Sublist.refl _ | apply List.Sublist.cons)); done))); (focus (intro w' hS'; (try dsimp only at hS'); go_simp; try rfl)); (try simp only [Act.put, List.setIfInBounds_toArray, List.set_cons_zero, List.set_cons_succ])) | (refine tree_any (v := ?_) ?_ rfl rfl ?_ ?_; rotate_left; (focus (first | exact S | (refine S.sub (subL HL0 HL ?_); (repeat (first | exact List.Sublist.refl _ | apply List.Sublist.cons)); done))); (focus (intro w'; go_simp; try rfl)); (try simp only [Act.put, List.setIfInBounds_toArray, List.set_cons_zero, List.set_cons_succ]))) | (refine tree_skip ?_ rfl rfl ?_; (focus (first | exact S | (refine S.sub (subL HL0 HL ?_); (repeat (first | exact List.Sublist.refl _ | apply List.Sublist.cons)); done))); (try simp only [Act.put, List.setIfInBounds_toArray, List.set_cons_zero, List.set_cons_succ])) | (refine tree_act rfl rfl ?_ tree_stop; intro K hK; (refine wp_store_box S _ _ _ rfl 0 _ _ _ _ (atOf HL rfl) rfl _ rfl (by kernel_rfl) rfl rfl ?_; intro w L hM T; clear F S; (try rw [HL.out] at hM); clear HL; (try simp [Act.put, Act.eval, Value.cells, splice] at hM); have HL := Lib.hid hM; clear hM; have S := T; clear T; have F := factsAll HL S; (try simp only [factsOf, cellsFrom, and_true, true_and, Nat.reduceAdd] at F)); (refine hK.out _ _ ?_ ?_; (focus (first | exact fun _ => S | (intro _; refine S.sub (subL HL0 HL ?_); (repeat (first | exact List.Sublist.refl _ | apply List.Sublist.cons)); done) | (refine sink_no ?_; kernel_rfl))); clear hK K; (try simp only [Act.put, List.setIfInBounds_toArray, List.set_cons_zero, List.set_cons_succ]))) | (refine tree_act rfl rfl ?_ tree_stop; intro K hK; go_wp2_with (first | (go_at_call 141; refine (C_needsDense _ _ _ _ _ _ p6 p7 p _ _ _ _ _ _ _ (by exact HE.out.2.1) (by exact HE.out.2.2) (by exact HE.out.1) ⟨by omega, by omega⟩ ⟨by omega, by omega⟩ ⟨by omega, by omega⟩).mono ?_; rintro e w ⟨rfl, hb⟩; replace S := S.grow hb; clear hb) | (go_at_call 16; refine (C_AddLow _ _ _ _ _ _ _ _ _ ⟨by omega, by omega⟩ ⟨by omega, by omega⟩ ⟨by omega, by omega⟩ ⟨by omega, by omega⟩ ⟨by omega, by omega⟩ ⟨by omega, by omega⟩ ⟨by omega, by omega⟩ ⟨by omega, by omega⟩).mono ?_; rintro e w ⟨rfl, hb⟩; replace S := S.grow hb; clear hb)); (refine hK.out _ _ ?_ ?_; (focus (first | exact fun _ => S | (intro _; refine S.sub (subL HL0 HL ?_); (repeat (first | exact List.Sublist.refl _ | apply List.Sublist.cons)); done) | (refine sink_no ?_; kernel_rfl))); clear hK K; (try simp only [Act.put, List.setIfInBounds_toArray, List.set_cons_zero, List.set_cons_succ]))))
              refine tree_fin ?_
              clear HL0 F0 hcell
              go_wp2_with (first | (go_at_call 143; refine (C_sidesDense _ _ _ _ _ _ _ _ _ _ _ _ _).mono ?_; rintro e w ⟨rfl, hb⟩; replace S := S.grow hb; clear hb))
              go_roundw
              case rel =>
                refine ⟨j + 1, wm.r, d', t + 0, m + 1, b + p6, o + (p7 + p + p6), L, by omega, by go_num, rfl, rfl, Lib.hid ⟨HAD.out.1, HAD.out.2, HREST.out, ?_⟩, by omega, by omega, by omega, by omega, (by first | exact HL | simpa using HL), S⟩
                rw [← HSUM.out]
                simp only [Need.add, Need.mk.injEq]
                omega
              case measure => simp [intOf]; omega
        | ramp =>
              have hz4 : (Ly.mk 2 []).needs r1 c1 = ⟨0, 0, p, p⟩ := by simp only [Ly.needs, e1]
              have had : a = r1 ∧ d' = c1 := by
                simp only [Ly.sides, Option.some.injEq, Prod.mk.injEq] at hs
                exact ⟨hs.1.symm, hs.2.symm⟩
              obtain ⟨rfl, rfl⟩ := had
              obtain rfl : x = _ := hif
              have HE := Lib.hid e1
              have hm1' := m_needsRamp
              have hm2' := m_sidesRamp
              have hbd := Ly.needs_bd hok hr1 hc1
              rw [hz4] at hsum hbd
              simp only [Need.within] at hbd
              obtain ⟨⟨bt1, bt2⟩, ⟨bm1, bm2⟩, ⟨bb1, bb2⟩, bo1, bo2⟩ := hbd
              obtain ⟨⟨ht1, ht2⟩, ⟨hm1, hm2⟩, ⟨hb1, hb2⟩, ho1, ho2⟩ := And.intro ht (And.intro hm (And.intro hb ho))
              have HSUM := Lib.hid hsum
              clear hsum hok hs hsd ht hm hb ho hl hx e1
              go_wp2
              have HL0 := HL; have F0 := F; refine wp_region_tree (S := fun w' => St w0 w' L) (.calm 0 (.calm 1 (.calm 2 (.calm 3 (.act 4 (.act 5 (.act 6 .fin .stop) .stop) .stop))))) (by kernel_rfl) (by kernel_rfl) (by kernel_rfl) (by intro c a d v w h; cases d <;> exact h) ?_; replace S := S.drew
              repeat (first | (first | (refine tree_calm (v := ?_) ?_ rfl (by decide +kernel) rfl ?_ ?_; rotate_left; (focus (first | exact S | (refine S.sub (subL HL0 HL ?_); (repeat (first | exact List.Sublist.refl _ | apply List.Sublist.cons)); done))); (focus (intro w' hS'; (try dsimp only at hS'); go_simp; try rfl)); (try simp only [Act.put, List.setIfInBounds_toArray, List.set_cons_zero, List.set_cons_succ])) | (refine tree_any (v := ?_) ?_ rfl rfl ?_ ?_; rotate_left; (focus (first | exact S | (refine S.sub (subL HL0 HL ?_); (repeat (first | exact List.Sublist.refl _ | apply List.Sublist.cons)); done))); (focus (intro w'; go_simp; try rfl)); (try simp only [Act.put, List.setIfInBounds_toArray, List.set_cons_zero, List.set_cons_succ]))) | (refine tree_skip ?_ rfl rfl ?_; (focus (first | exact S | (refine S.sub (subL HL0 HL ?_); (repeat (first | exact List.Sublist.refl _ | apply List.Sublist.cons)); done))); (try simp only [Act.put, List.setIfInBounds_toArray, List.set_cons_zero, List.set_cons_succ])) | (refine tree_act rfl rfl ?_ tree_stop; intro K hK; (refine wp_store_box S _ _ _ rfl 0 _ _ _ _ (atOf HL rfl) rfl _ rfl (by kernel_rfl) rfl rfl ?_; intro w L hM T; clear F S; (try rw [HL.out] at hM); clear HL; (try simp [Act.put, Act.eval, Value.cells, splice] at hM); have HL := Lib.hid hM; clear hM; have S := T; clear T; have F := factsAll HL S; (try simp only [factsOf, cellsFrom, and_true, true_and, Nat.reduceAdd] at F)); (refine hK.out _ _ ?_ ?_; (focus (first | exact fun _ => S | (intro _; refine S.sub (subL HL0 HL ?_); (repeat (first | exact List.Sublist.refl _ | apply List.Sublist.cons)); done) | (refine sink_no ?_; kernel_rfl))); clear hK K; (try simp only [Act.put, List.setIfInBounds_toArray, List.set_cons_zero, List.set_cons_succ]))) | (refine tree_act rfl rfl ?_ tree_stop; intro K hK; go_wp2_with (first | (go_at_call 146; refine (C_needsRamp _ _ p _ (by exact HE.out) ⟨by omega, by omega⟩).mono ?_; rintro e w ⟨rfl, hb⟩; replace S := S.grow hb; clear hb) | (go_at_call 16; refine (C_AddLow _ _ _ _ _ _ _ _ _ ⟨by omega, by omega⟩ ⟨by omega, by omega⟩ ⟨by omega, by omega⟩ ⟨by omega, by omega⟩ ⟨by omega, by omega⟩ ⟨by omega, by omega⟩ ⟨by omega, by omega⟩ ⟨by omega, by omega⟩).mono ?_; rintro e w ⟨rfl, hb⟩; replace S := S.grow hb; clear hb)); (refine hK.out _ _ ?_ ?_; (focus (first | exact fun _ => S | (intro _; refine S.sub (subL HL0 HL ?_); (repeat (first | exact List.Sublist.refl _ | apply List.Sublist.cons)); done) | (refine sink_no ?_; kernel_rfl))); clear hK K; (try simp only [Act.put, List.setIfInBounds_toArray, List.set_cons_zero, List.set_cons_succ]))))
              refine tree_fin ?_
              clear HL0 F0 hcell
              go_wp2_with (first | (go_at_call 148; refine (C_sidesRamp _ _ _).mono ?_; rintro e w ⟨rfl, hb⟩; replace S := S.grow hb; clear hb))
              go_roundw
              case rel =>
                refine ⟨j + 1, a, d', t + 0, m + 0, b + p, o + p, L, by omega, by go_num, rfl, rfl, Lib.hid ⟨HAD.out.1, HAD.out.2, HREST.out, ?_⟩, by omega, by omega, by omega, by omega, (by first | exact HL | simpa using HL), S⟩
                rw [← HSUM.out]
                simp only [Need.add, Need.mk.injEq]
                omega
              case measure => simp [intOf]; omega
        | mix y1 y2 y3 hd =>
              obtain ⟨p6, e2⟩ : ∃ p, r1 * r1 = p := ⟨_, rfl⟩
              obtain ⟨p7, e3⟩ : ∃ p, c1 * c1 = p := ⟨_, rfl⟩
              have e4 : c1 * r1 = p := by rw [Int.mul_comm]; exact e1
              rw [e2] at p2
              rw [e3] at p3
              have hz4 : (Ly.mk 3 [y1, y2, y3]).needs r1 c1 = ⟨p6, 5, 3 * p + p6 + p + 2 * p6 + r1, 3 * (p + p7 + p) + (p + p + p6) + (p6 + p + p) + 4 * p6 + r1⟩ := by simp only [Ly.needs, e1, e2, e3, e4]
              have had : a = r1 ∧ d' = c1 := by
                simp only [Ly.sides] at hs
                split at hs
                · injection hs with hs
                  injection hs with h1 h2
                  exact ⟨h1.symm, h2.symm⟩
                · cases hs
              obtain ⟨rfl, rfl⟩ := had
              obtain ⟨u, rfl, hu⟩ := hif
              have HU := Lib.hid hu
              obtain ⟨Au, cu, rfl, _⟩ := hu
              simp only [List.length_cons, List.length_nil, Nat.zero_add, Nat.reduceAdd] at HU hcell
              have HE := Lib.hid (And.intro e1 (And.intro e2 e3))
              have HRC := Lib.hid (And.intro hr1 hc1)
              have hm1' := m_needsMix Au 3 cu
              have hm2' := m_sidesMix Au 3 cu
              have hbd := Ly.needs_bd hok hr1 hc1
              rw [hz4] at hsum hbd
              simp only [Need.within] at hbd
              obtain ⟨⟨bt1, bt2⟩, ⟨bm1, bm2⟩, ⟨bb1, bb2⟩, bo1, bo2⟩ := hbd
              obtain ⟨⟨ht1, ht2⟩, ⟨hm1, hm2⟩, ⟨hb1, hb2⟩, ho1, ho2⟩ := And.intro ht (And.intro hm (And.intro hb ho))
              have HSUM := Lib.hid hsum
              clear hsum hok hs hsd ht hm hb ho hl hx e1 e2 e3 e4
              go_wp2
              have HL0 := HL; have F0 := F; refine wp_region_tree (S := fun w' => St w0 w' L) (.calm 0 (.calm 1 (.calm 2 (.calm 3 (.act 4 (.act 5 (.act 6 .fin .stop) .stop) .stop))))) (by kernel_rfl) (by kernel_rfl) (by kernel_rfl) (by intro c a d v w h; cases d <;> exact h) ?_; replace S := S.drew
              repeat (first | (first | (refine tree_calm (v := ?_) ?_ rfl (by decide +kernel) rfl ?_ ?_; rotate_left; (focus (first | exact S | (refine S.sub (subL HL0 HL ?_); (repeat (first | exact List.Sublist.refl _ | apply List.Sublist.cons)); done))); (focus (intro w' hS'; (try dsimp only at hS'); go_simp; try rfl)); (try simp only [Act.put, List.setIfInBounds_toArray, List.set_cons_zero, List.set_cons_succ])) | (refine tree_any (v := ?_) ?_ rfl rfl ?_ ?_; rotate_left; (focus (first | exact S | (refine S.sub (subL HL0 HL ?_); (repeat (first | exact List.Sublist.refl _ | apply List.Sublist.cons)); done))); (focus (intro w'; go_simp; try rfl)); (try simp only [Act.put, List.setIfInBounds_toArray, List.set_cons_zero, List.set_cons_succ]))) | (refine tree_skip ?_ rfl rfl ?_; (focus (first | exact S | (refine S.sub (subL HL0 HL ?_); (repeat (first | exact List.Sublist.refl _ | apply List.Sublist.cons)); done))); (try simp only [Act.put, List.setIfInBounds_toArray, List.set_cons_zero, List.set_cons_succ])) | (refine tree_act rfl rfl ?_ tree_stop; intro K hK; (refine wp_store_box S _ _ _ rfl 0 _ _ _ _ (atOf HL rfl) rfl _ rfl (by kernel_rfl) rfl rfl ?_; intro w L hM T; clear F S; (try rw [HL.out] at hM); clear HL; (try simp [Act.put, Act.eval, Value.cells, splice] at hM); have HL := Lib.hid hM; clear hM; have S := T; clear T; have F := factsAll HL S; (try simp only [factsOf, cellsFrom, and_true, true_and, Nat.reduceAdd] at F)); (refine hK.out _ _ ?_ ?_; (focus (first | exact fun _ => S | (intro _; refine S.sub (subL HL0 HL ?_); (repeat (first | exact List.Sublist.refl _ | apply List.Sublist.cons)); done) | (refine sink_no ?_; kernel_rfl))); clear hK K; (try simp only [Act.put, List.setIfInBounds_toArray, List.set_cons_zero, List.set_cons_succ]))) | (refine tree_act rfl rfl ?_ tree_stop; intro K hK; go_wp2_with (first | (go_at_call 149; refine (C_needsMix _ _ _ _ p p6 p7 _ (by exact HRC.out.1) (by exact HRC.out.2) (by exact HE.out.1) (by exact HE.out.2.1) (by exact HE.out.2.2)).mono ?_; rintro e w ⟨rfl, hb⟩; replace S := S.grow hb; clear hb) | (go_at_call 16; refine (C_AddLow _ _ _ _ _ _ _ _ _ ⟨by omega, by omega⟩ ⟨by omega, by omega⟩ ⟨by omega, by omega⟩ ⟨by omega, by omega⟩ ⟨by omega, by omega⟩ ⟨by omega, by omega⟩ ⟨by omega, by omega⟩ ⟨by omega, by omega⟩).mono ?_; rintro e w ⟨rfl, hb⟩; replace S := S.grow hb; clear hb)); (refine hK.out _ _ ?_ ?_; (focus (first | exact fun _ => S | (intro _; refine S.sub (subL HL0 HL ?_); (repeat (first | exact List.Sublist.refl _ | apply List.Sublist.cons)); done) | (refine sink_no ?_; kernel_rfl))); clear hK K; (try simp only [Act.put, List.setIfInBounds_toArray, List.set_cons_zero, List.set_cons_succ]))))
              refine tree_fin ?_
              clear HL0 F0 hcell
              go_wp2_with (first | (go_at_call 151; refine (C_sidesMix _ y1 [y2, y3] _ _ _ (HU.out.at_ S)).mono ?_; rintro e w ⟨rfl, hb⟩; replace S := S.grow hb; clear hb))
              go_roundw
              case rel =>
                refine ⟨j + 1, a, d', t + p6, m + 5, b + (3 * p + p6 + p + 2 * p6 + a), o + (3 * (p + p7 + p) + (p + p + p6) + (p6 + p + p) + 4 * p6 + a), L, by omega, by go_num, rfl, rfl, Lib.hid ⟨HAD.out.1, HAD.out.2, HREST.out, ?_⟩, by omega, by omega, by omega, by omega, (by first | exact HL | simpa using HL), S⟩
                rw [← HSUM.out]
                simp only [Need.add, Need.mk.injEq]
                omega
              case measure => simp [intOf]; omega
      · obtain rfl : j = n := by omega
        rw [List.drop_of_length_le (Nat.le_of_eq HN.out)] at hsum
        have e : Need.mk t m b o = y := by rw [← hsum]; simp [needsFrom, Need.add, Need.zero]
        subst e
        clear hsum hsd
        go_wp2_with (first | (refine wpList_store_box rfl S _ _ _ rfl 0 _ _ _ _ (atOf HL rfl) rfl _ rfl (by kernel_rfl) rfl rfl ?_; intro w L hM T; clear F S; (try rw [HL.out] at hM); clear HL; (try simp [Act.put, Act.eval, Value.cells, splice] at hM); have HL := Lib.hid hM; clear hM; have S := T; clear T; have F := factsAll HL S; (try simp only [factsOf, cellsFrom, and_true, true_and, Nat.reduceAdd] at F)) | (refine wpList_store_box rfl S _ _ _ rfl 1 _ _ _ _ (atOf HL rfl) rfl _ rfl (by kernel_rfl) rfl rfl ?_; intro w L hM T; clear F S; (try rw [HL.out] at hM); clear HL; (try simp [Act.put, Act.eval, Value.cells, splice] at hM); have HL := Lib.hid hM; clear hM; have S := T; clear T; have F := factsAll HL S; (try simp only [factsOf, cellsFrom, and_true, true_and, Nat.reduceAdd] at F)) | (refine wpList_store_box rfl S _ _ _ rfl 2 _ _ _ _ (atOf HL rfl) rfl _ rfl (by kernel_rfl) rfl rfl ?_; intro w L hM T; clear F S; (try rw [HL.out] at hM); clear HL; (try simp [Act.put, Act.eval, Value.cells, splice] at hM); have HL := Lib.hid hM; clear hM; have S := T; clear T; have F := factsAll HL S; (try simp only [factsOf, cellsFrom, and_true, true_and, Nat.reduceAdd] at F)))
        ((try simp only [Exit.inBlock, Exit.then]); refine ret1 rfl (resCell S HL 2 rfl rfl (by kernel_rfl)) rfl ?_)
        exact ⟨rfl, S.below⟩
end Go.Proofs.Ytiiijfhacaomdaa
