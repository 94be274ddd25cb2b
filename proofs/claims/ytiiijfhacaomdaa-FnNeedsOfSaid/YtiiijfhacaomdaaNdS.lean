/-
  Contracts: what layers and networks need (the reference's).
-/
import Derived.Test.YtiiijfhacaomdaaLyN
namespace Go.Proofs.Ytiiijfhacaomdaa
set_option linter.unusedSimpArgs false
set_option linter.unusedVariables false
set_option linter.unusedSectionVars false
open Go Go.RowKit
set_option maxHeartbeats 8000000
set_option maxRecDepth 20000
def Need.within (k : Int) (x : Need) : Prop := (0 ≤ x.t ∧ x.t ≤ k) ∧ (0 ≤ x.m ∧ x.m ≤ k) ∧ (0 ≤ x.b ∧ x.b ≤ k) ∧ 0 ≤ x.o ∧ x.o ≤ k
theorem prod_bd {r c : Int} (hr : 1 ≤ r ∧ r ≤ 5) (hc : 1 ≤ c ∧ c ≤ 5) : 1 ≤ r * c ∧ r * c ≤ 25 := side_prod (sideOk_iff.2 hr) (sideOk_iff.2 hc)
/-- What a valid layer that fits needs is little. -/
theorem Ly.needs_bd {l : Ly} (h : l.ok = true) {r c : Int} (hr : 1 ≤ r ∧ r ≤ 5) (hc : 1 ≤ c ∧ c ≤ 5) : (l.needs r c).within 1000 := by
  have p1 := prod_bd hr hc
  have p2 := prod_bd hr hr
  have p3 := prod_bd hc hc
  have p4 := prod_bd hc hr
  cases Ly.ok_case h with
  | dense w b hd =>
    simp only [denseFit, Bool.and_eq_true] at hd
    have hs := Mx.ok_sides hd.1.1.1
    have p5 := prod_bd hs.1 hc
    have p6 := prod_bd hs.1 hr
    simp only [Ly.needs, prodNeed, Need.within]
    omega
  | ramp =>
    simp only [Ly.needs, Need.within]
    omega
  | mix a b d hd =>
    simp only [Ly.needs, Need.within]
    omega
theorem C_l18Product (t m b o r i c p q s : Int) (w0 : World) (e1 : r * c = p) (e2 : r * i = q) (e3 : i * c = s) (hp : 0 ≤ p ∧ p ≤ 25) (hq : 0 ≤ q ∧ q ≤ 25) (hs : 0 ≤ s ∧ s ≤ 25)
    (ht : 0 ≤ t ∧ t ≤ 1000000) (hm : 0 ≤ m ∧ m ≤ 1000000) (hb : 0 ≤ b ∧ b ≤ 1000000) (ho : 0 ≤ o ∧ o ≤ 1000000) :
    Calls Try.prog 70 #[.agg #[.int .i64 t, .int .i64 m, .int .i64 b, .int .i64 o], .int .i64 r, .int .i64 i, .int .i64 c] w0 fun e w' => e = .returned (.agg #[.int .i64 t, .int .i64 (m + 1), .int .i64 (b + p), .int .i64 (o + q + s + p)]) ∧ Below w0.heap.size w0 w' := by
  obtain ⟨hp1, hp2⟩ := hp
  obtain ⟨hq1, hq2⟩ := hq
  obtain ⟨hs1, hs2⟩ := hs
  obtain ⟨ht1, ht2⟩ := ht
  obtain ⟨hm1, hm2⟩ := hm
  obtain ⟨hb1, hb2⟩ := hb
  obtain ⟨ho1, ho2⟩ := ho
  obtain ⟨L, HL, S⟩ := st_start w0; have F : True := trivial
  go_enter Try.func70, Try.ntmps70
  go_wp2_with (first | (refine wpList_box rfl S _ _ rfl ?_; intro g w L hM T; clear F S; (try rw [HL.out] at hM); clear HL; (try simp [Act.put, Act.eval, Value.cells, splice] at hM); have HL := Lib.hid hM; clear hM; have S := T; clear T; have F := factsAll HL S; (try simp only [factsOf, cellsFrom, and_true, true_and, Nat.reduceAdd] at F)) | (refine wpList_alloc rfl S 31 _ rfl zNd ?_; intro g w L hM T; clear F S; (try rw [HL.out] at hM); clear HL; (try simp [Act.put, Act.eval, Value.cells, splice] at hM); have HL := Lib.hid hM; clear hM; have S := T; clear T; have F := factsAll HL S; (try simp only [factsOf, cellsFrom, and_true, true_and, Nat.reduceAdd] at F)) | (refine wpList_store_box rfl S _ _ _ rfl 0 _ _ _ _ (atOf HL rfl) rfl _ rfl (by kernel_rfl) rfl rfl ?_; intro w L hM T; clear F S; (try rw [HL.out] at hM); clear HL; (try simp [Act.put, Act.eval, Value.cells, splice] at hM); have HL := Lib.hid hM; clear hM; have S := T; clear T; have F := factsAll HL S; (try simp only [factsOf, cellsFrom, and_true, true_and, Nat.reduceAdd] at F)) | (refine wpList_store_box rfl S _ _ _ rfl 1 _ _ _ _ (atOf HL rfl) rfl _ rfl (by kernel_rfl) rfl rfl ?_; intro w L hM T; clear F S; (try rw [HL.out] at hM); clear HL; (try simp [Act.put, Act.eval, Value.cells, splice] at hM); have HL := Lib.hid hM; clear hM; have S := T; clear T; have F := factsAll HL S; (try simp only [factsOf, cellsFrom, and_true, true_and, Nat.reduceAdd] at F)) | (refine wpList_store_box rfl S _ _ _ rfl 2 _ _ _ _ (atOf HL rfl) rfl _ rfl (by kernel_rfl) rfl rfl ?_; intro w L hM T; clear F S; (try rw [HL.out] at hM); clear HL; (try simp [Act.put, Act.eval, Value.cells, splice] at hM); have HL := Lib.hid hM; clear hM; have S := T; clear T; have F := factsAll HL S; (try simp only [factsOf, cellsFrom, and_true, true_and, Nat.reduceAdd] at F)) | (refine wpList_store_box rfl S _ _ _ rfl 3 _ _ _ _ (atOf HL rfl) rfl _ rfl (by kernel_rfl) rfl rfl ?_; intro w L hM T; clear F S; (try rw [HL.out] at hM); clear HL; (try simp [Act.put, Act.eval, Value.cells, splice] at hM); have HL := Lib.hid hM; clear hM; have S := T; clear T; have F := factsAll HL S; (try simp only [factsOf, cellsFrom, and_true, true_and, Nat.reduceAdd] at F))  )
  ((try simp only [Exit.inBlock, Exit.then]); refine ret1 rfl (resCell S HL 0 rfl rfl (by kernel_rfl)) rfl ?_)
  exact ⟨rfl, S.below⟩
theorem C_l18Layer (t m b o r c : Int) (kind : Int) (ms : List Mx) (v : Value) (z : Need) (w0 : World) (h : SeesMs w0 v ms) (hok : (Ly.mk kind ms).ok = true) (hr : 1 ≤ r ∧ r ≤ 5) (hc : 1 ≤ c ∧ c ≤ 5)
    (ht : 0 ≤ t ∧ t ≤ 100000) (hm : 0 ≤ m ∧ m ≤ 100000) (hb : 0 ≤ b ∧ b ≤ 100000) (ho : 0 ≤ o ∧ o ≤ 100000) (hz : (Ly.mk kind ms).needs r c = z) :
    Calls Try.prog 45 #[.agg #[.int .i64 t, .int .i64 m, .int .i64 b, .int .i64 o], .agg #[.int .i64 kind, v], .int .i64 r, .int .i64 c] w0 fun e w' => e = .returned (.agg #[.int .i64 (t + z.t), .int .i64 (m + z.m), .int .i64 (b + z.b), .int .i64 (o + z.o)]) ∧ Below w0.heap.size w0 w' := by
  have p1 := prod_bd hr hc
  have p2 := prod_bd hr hr
  have p3 := prod_bd hc hc
  have p4 := prod_bd hc hr
  obtain ⟨hr1, hr2⟩ := hr
  obtain ⟨hc1, hc2⟩ := hc
  obtain ⟨ht1, ht2⟩ := ht
  obtain ⟨hm1, hm2⟩ := hm
  obtain ⟨hb1, hb2⟩ := hb
  obtain ⟨ho1, ho2⟩ := ho
  obtain ⟨A, cap, rfl, hcap, hmax, hA⟩ := h
  cases Ly.ok_case hok with
  | dense wm d hd =>
    simp only [denseFit, Bool.and_eq_true] at hd
    have hs := Mx.ok_sides hd.1.1.1
    have p5 := prod_bd hs.1 ⟨hc1, hc2⟩
    have p6 := prod_bd hs.1 ⟨hr1, hr2⟩
    obtain ⟨bl, off, rfl, hbl, hc⟩ := hA (by simp)
    obtain ⟨u, a1, a2, _, _⟩ := hc 0 _ rfl
    rw [Nat.zero_mul, Nat.add_zero] at a1 a2
    simp only [List.length_cons, List.length_nil, Nat.zero_add, Nat.reduceAdd] at hcap ⊢
    have q1 := fun w' L (S' : St w0 w' L) => (S'.below.cell (p := ⟨bl, off, none⟩) hbl).trans a1
    obtain ⟨zt, zm, zb, zo⟩ := z
    simp only [Ly.needs, prodNeed, Need.mk.injEq] at hz
    obtain ⟨rfl, rfl, rfl, rfl⟩ := hz
    dsimp only
    generalize wm.r = x at *
    obtain ⟨p, e1⟩ : ∃ p, x * c = p := ⟨_, rfl⟩
    obtain ⟨q, e2⟩ : ∃ p, x * r = p := ⟨_, rfl⟩
    obtain ⟨s, e3⟩ : ∃ p, r * c = p := ⟨_, rfl⟩
    rw [e1, e2, e3]
    rw [e1] at p5
    rw [e2] at p6
    rw [e3] at p1
    have HE := Lib.hid (And.intro e1 (And.intro e2 e3))
    clear hok hd hc hA a1 a2 p2 p3 p4 hs e1 e2 e3
    obtain ⟨L, HL, S⟩ := st_start w0; have F : True := trivial
    go_enter Try.func45, Try.ntmps45
    go_upto_region 3 with (first | (refine wpList_box rfl S _ _ rfl ?_; intro g w L hM T; clear F S; (try rw [HL.out] at hM); clear HL; (try simp [Act.put, Act.eval, Value.cells, splice] at hM); have HL := Lib.hid hM; clear hM; have S := T; clear T; have F := factsAll HL S; (try simp only [factsOf, cellsFrom, and_true, true_and, Nat.reduceAdd] at F)) | (refine wpList_alloc rfl S 31 _ rfl zNd ?_; intro g w L hM T; clear F S; (try rw [HL.out] at hM); clear HL; (try simp [Act.put, Act.eval, Value.cells, splice] at hM); have HL := Lib.hid hM; clear hM; have S := T; clear T; have F := factsAll HL S; (try simp only [factsOf, cellsFrom, and_true, true_and, Nat.reduceAdd] at F)))
    have f1 := fun w' (S' : St w0 w' L) => q1 w' L S'
    have HL0 := HL; have F0 := F; refine wp_region_tree (S := fun w' => St w0 w' L) (.calm 0 (.calm 1 (.calm 2 (.calm 3 (.calm 4 (.calm 5 (.calm 6 (.calm 7 (.act 8 (.act 9 .fin .stop) .stop))))))))) (by kernel_rfl) (by kernel_rfl) (by kernel_rfl) (by intro c a d v w h; cases d <;> exact h) ?_; replace S := S.drew
    repeat (first | (first | (refine tree_calm (v := ?_) ?_ rfl (by decide +kernel) rfl ?_ ?_; rotate_left; (focus (first | exact S | (refine S.sub (subL HL0 HL ?_); (repeat (first | exact List.Sublist.refl _ | apply List.Sublist.cons)); done))); (focus (intro w' hS'; (try dsimp only at hS'); go_simp; try rfl)); (try simp only [Act.put, List.setIfInBounds_toArray, List.set_cons_zero, List.set_cons_succ])) | (refine tree_any (v := ?_) ?_ rfl rfl ?_ ?_; rotate_left; (focus (first | exact S | (refine S.sub (subL HL0 HL ?_); (repeat (first | exact List.Sublist.refl _ | apply List.Sublist.cons)); done))); (focus (intro w'; go_simp; try rfl)); (try simp only [Act.put, List.setIfInBounds_toArray, List.set_cons_zero, List.set_cons_succ]))) | (refine tree_skip ?_ rfl rfl ?_; (focus (first | exact S | (refine S.sub (subL HL0 HL ?_); (repeat (first | exact List.Sublist.refl _ | apply List.Sublist.cons)); done))); (try simp only [Act.put, List.setIfInBounds_toArray, List.set_cons_zero, List.set_cons_succ])) | (refine tree_act rfl rfl ?_ tree_stop; intro K hK; (refine wp_store_box S _ _ _ rfl 0 _ _ _ _ (atOf HL rfl) rfl _ rfl (by kernel_rfl) rfl rfl ?_; intro w L hM T; clear F S; (try rw [HL.out] at hM); clear HL; (try simp [Act.put, Act.eval, Value.cells, splice] at hM); have HL := Lib.hid hM; clear hM; have S := T; clear T; have F := factsAll HL S; (try simp only [factsOf, cellsFrom, and_true, true_and, Nat.reduceAdd] at F)); (refine hK.out _ _ ?_ ?_; (focus (first | exact fun _ => S | (intro _; refine S.sub (subL HL0 HL ?_); (repeat (first | exact List.Sublist.refl _ | apply List.Sublist.cons)); done) | (refine sink_no ?_; kernel_rfl))); clear hK K; (try simp only [Act.put, List.setIfInBounds_toArray, List.set_cons_zero, List.set_cons_succ]))) | (refine tree_act rfl rfl ?_ tree_stop; intro K hK; go_wp2_with (first | (go_at_call 70; refine (C_l18Product _ _ _ _ _ _ _ p q s _ HE.out.1 HE.out.2.1 HE.out.2.2 ⟨by omega, by omega⟩ ⟨by omega, by omega⟩ ⟨by omega, by omega⟩ ⟨by omega, by omega⟩ ⟨by omega, by omega⟩ ⟨by omega, by omega⟩ ⟨by omega, by omega⟩).mono ?_; rintro e w ⟨rfl, hb⟩; replace S := S.grow hb; clear hb)); (refine hK.out _ _ ?_ ?_; (focus (first | exact fun _ => S | (intro _; refine S.sub (subL HL0 HL ?_); (repeat (first | exact List.Sublist.refl _ | apply List.Sublist.cons)); done) | (refine sink_no ?_; kernel_rfl))); clear hK K; (try simp only [Act.put, List.setIfInBounds_toArray, List.set_cons_zero, List.set_cons_succ]))))
    refine tree_fin ?_
    go_wp2
    ((try simp only [Exit.inBlock, Exit.then]); refine ret1 rfl (resCell S HL 0 rfl rfl (by kernel_rfl)) rfl ?_)
    refine ⟨?_, S.below⟩
    congr 4
    all_goals first | rfl | omega | (simp; done) | (simp; omega)
  | ramp =>
    obtain ⟨zt, zm, zb, zo⟩ := z
    simp only [Ly.needs, Need.mk.injEq] at hz
    obtain ⟨rfl, rfl, rfl, rfl⟩ := hz
    dsimp only
    obtain ⟨p, e1⟩ : ∃ p, r * c = p := ⟨_, rfl⟩
    rw [e1] at p1 ⊢
    clear hok hA p2 p3 p4
    obtain ⟨L, HL, S⟩ := st_start w0; have F : True := trivial
    go_enter Try.func45, Try.ntmps45
    go_wp2_with (first | (refine wpList_box rfl S _ _ rfl ?_; intro g w L hM T; clear F S; (try rw [HL.out] at hM); clear HL; (try simp [Act.put, Act.eval, Value.cells, splice] at hM); have HL := Lib.hid hM; clear hM; have S := T; clear T; have F := factsAll HL S; (try simp only [factsOf, cellsFrom, and_true, true_and, Nat.reduceAdd] at F)) | (refine wpList_alloc rfl S 31 _ rfl zNd ?_; intro g w L hM T; clear F S; (try rw [HL.out] at hM); clear HL; (try simp [Act.put, Act.eval, Value.cells, splice] at hM); have HL := Lib.hid hM; clear hM; have S := T; clear T; have F := factsAll HL S; (try simp only [factsOf, cellsFrom, and_true, true_and, Nat.reduceAdd] at F)) | (refine wpList_store_box rfl S _ _ _ rfl 0 _ _ _ _ (atOf HL rfl) rfl _ rfl (by kernel_rfl) rfl rfl ?_; intro w L hM T; clear F S; (try rw [HL.out] at hM); clear HL; (try simp [Act.put, Act.eval, Value.cells, splice] at hM); have HL := Lib.hid hM; clear hM; have S := T; clear T; have F := factsAll HL S; (try simp only [factsOf, cellsFrom, and_true, true_and, Nat.reduceAdd] at F)) | (refine wpList_store_box rfl S _ _ _ rfl 1 _ _ _ _ (atOf HL rfl) rfl _ rfl (by kernel_rfl) rfl rfl ?_; intro w L hM T; clear F S; (try rw [HL.out] at hM); clear HL; (try simp [Act.put, Act.eval, Value.cells, splice] at hM); have HL := Lib.hid hM; clear hM; have S := T; clear T; have F := factsAll HL S; (try simp only [factsOf, cellsFrom, and_true, true_and, Nat.reduceAdd] at F)) | (refine wpList_store_box rfl S _ _ _ rfl 2 _ _ _ _ (atOf HL rfl) rfl _ rfl (by kernel_rfl) rfl rfl ?_; intro w L hM T; clear F S; (try rw [HL.out] at hM); clear HL; (try simp [Act.put, Act.eval, Value.cells, splice] at hM); have HL := Lib.hid hM; clear hM; have S := T; clear T; have F := factsAll HL S; (try simp only [factsOf, cellsFrom, and_true, true_and, Nat.reduceAdd] at F)) | (refine wpList_store_box rfl S _ _ _ rfl 3 _ _ _ _ (atOf HL rfl) rfl _ rfl (by kernel_rfl) rfl rfl ?_; intro w L hM T; clear F S; (try rw [HL.out] at hM); clear HL; (try simp [Act.put, Act.eval, Value.cells, splice] at hM); have HL := Lib.hid hM; clear hM; have S := T; clear T; have F := factsAll HL S; (try simp only [factsOf, cellsFrom, and_true, true_and, Nat.reduceAdd] at F))  )
    ((try simp only [Exit.inBlock, Exit.then]); refine ret1 rfl (resCell S HL 0 rfl rfl (by kernel_rfl)) rfl ?_)
    refine ⟨?_, S.below⟩
    congr 4
    all_goals first | rfl | omega | (simp; done) | (simp; omega)
  | mix wm d x3 hd =>
    obtain ⟨zt, zm, zb, zo⟩ := z
    simp only [Ly.needs, Need.mk.injEq] at hz
    obtain ⟨p, e1⟩ : ∃ p, r * c = p := ⟨_, rfl⟩
    obtain ⟨rr, e2⟩ : ∃ p, r * r = p := ⟨_, rfl⟩
    obtain ⟨s, e3⟩ : ∃ p, c * c = p := ⟨_, rfl⟩
    have e4 : c * r = p := by rw [Int.mul_comm]; exact e1
    obtain ⟨f5, e5⟩ : ∃ p, 2 * r * r = p := ⟨_, rfl⟩
    obtain ⟨f6, e6⟩ : ∃ p, 4 * r * r = p := ⟨_, rfl⟩
    have h5 : f5 = 2 * rr := by rw [← e5, Int.mul_assoc, e2]
    have h6 : f6 = 4 * rr := by rw [← e6, Int.mul_assoc, e2]
    simp only [e1, e2, e3, e4] at hz
    rw [e1] at p1
    rw [e2] at p2
    rw [e3] at p3
    have HE := Lib.hid (And.intro e1 (And.intro e2 (And.intro e3 e4)))
    clear hok hd hA p4 e1 e3 e4
    obtain ⟨L, HL, S⟩ := st_start w0; have F : True := trivial
    go_enter Try.func45, Try.ntmps45
    go_upto_region 6 with (first | (refine wpList_box (o := { dst := some 4, op := _, type := _, pos := _, after := _, guard := _ }) rfl S _ _ rfl ?_; intro g4 w L hM T; clear F S; (try rw [HL.out] at hM); clear HL; (try simp [Act.put, Act.eval, Value.cells, splice] at hM); have HL := Lib.hid hM; clear hM; have S := T; clear T; have F := factsAll HL S; (try simp only [factsOf, cellsFrom, and_true, true_and, Nat.reduceAdd] at F)) | (refine wpList_box (o := { dst := some 5, op := _, type := _, pos := _, after := _, guard := _ }) rfl S _ _ rfl ?_; intro g5 w L hM T; clear F S; (try rw [HL.out] at hM); clear HL; (try simp [Act.put, Act.eval, Value.cells, splice] at hM); have HL := Lib.hid hM; clear hM; have S := T; clear T; have F := factsAll HL S; (try simp only [factsOf, cellsFrom, and_true, true_and, Nat.reduceAdd] at F)) | (refine wpList_alloc rfl S 31 _ rfl zNd ?_; intro g8 w L hM T; clear F S; (try rw [HL.out] at hM); clear HL; (try simp [Act.put, Act.eval, Value.cells, splice] at hM); have HL := Lib.hid hM; clear hM; have S := T; clear T; have F := factsAll HL S; (try simp only [factsOf, cellsFrom, and_true, true_and, Nat.reduceAdd] at F)))
    go_wp2
    go_loopw [9] (fun i wr => ∃ (j : Nat) (B O : Int) (L : List Ent), (j = 0 ∧ B = b ∧ O = o ∨ j = 1 ∧ B = b + p ∧ O = o + (2 * p + s) ∨ j = 2 ∧ B = b + 2 * p ∧ O = o + 2 * (2 * p + s) ∨ j = 3 ∧ B = b + 3 * p ∧ O = o + 3 * (2 * p + s)) ∧ i = .int .i64 j ∧ Hid (L = [.box g8 31 [.int .i64 0, .int .i64 0, .int .i64 0, .int .i64 0], .box g5 42 [.int .i64 3, .slice A [wm, d, x3].length cap], .box g4 31 [.int .i64 t, .int .i64 (m + j), .int .i64 B, .int .i64 O]]) ∧ St w0 wr L) (fun i _ => 3 - (intOf i).toNat)
    case atStart => exact ⟨0, b, o, L, .inl ⟨rfl, rfl, rfl⟩, rfl, by simpa using HL, S⟩
    case round =>
      clear F HL S
      obtain ⟨j, B, O, L, hj, rfl, HL, S⟩ := hrel
      have F := factsAll HL S
      simp only [factsOf, cellsFrom, and_true, true_and, Nat.reduceAdd] at F
      by_cases hlt : j < 3
      · have hB : 0 ≤ B ∧ B ≤ 200000 := by omega
        have hO : 0 ≤ O ∧ O ≤ 200000 := by omega
        obtain ⟨hB1, hB2⟩ := hB
        obtain ⟨hO1, hO2⟩ := hO
        go_wp2_with (first | (refine wpList_store_box rfl S _ _ _ rfl 0 _ _ _ _ (atOf HL rfl) rfl _ rfl (by kernel_rfl) rfl rfl ?_; intro w L hM T; clear F S; (try rw [HL.out] at hM); clear HL; (try simp [Act.put, Act.eval, Value.cells, splice] at hM); have HL := Lib.hid hM; clear hM; have S := T; clear T; have F := factsAll HL S; (try simp only [factsOf, cellsFrom, and_true, true_and, Nat.reduceAdd] at F)) | (refine wpList_store_box rfl S _ _ _ rfl 1 _ _ _ _ (atOf HL rfl) rfl _ rfl (by kernel_rfl) rfl rfl ?_; intro w L hM T; clear F S; (try rw [HL.out] at hM); clear HL; (try simp [Act.put, Act.eval, Value.cells, splice] at hM); have HL := Lib.hid hM; clear hM; have S := T; clear T; have F := factsAll HL S; (try simp only [factsOf, cellsFrom, and_true, true_and, Nat.reduceAdd] at F)) | (refine wpList_store_box rfl S _ _ _ rfl 2 _ _ _ _ (atOf HL rfl) rfl _ rfl (by kernel_rfl) rfl rfl ?_; intro w L hM T; clear F S; (try rw [HL.out] at hM); clear HL; (try simp [Act.put, Act.eval, Value.cells, splice] at hM); have HL := Lib.hid hM; clear hM; have S := T; clear T; have F := factsAll HL S; (try simp only [factsOf, cellsFrom, and_true, true_and, Nat.reduceAdd] at F)) | (go_at_call 70; refine (C_l18Product _ _ _ _ _ _ _ p p s _ (by exact HE.out.1) (by exact HE.out.1) (by exact HE.out.2.2.1) ⟨by omega, by omega⟩ ⟨by omega, by omega⟩ ⟨by omega, by omega⟩ ⟨by omega, by omega⟩ ⟨by omega, by omega⟩ ⟨by omega, by omega⟩ ⟨by omega, by omega⟩).mono ?_; rintro e w ⟨rfl, hb⟩; replace S := S.grow hb; clear hb))
        go_roundw
        case rel => exact ⟨j + 1, B + p, O + p + s + p, L, by omega, by go_num, Lib.hid (by rw [HL.out]; simp; omega), S⟩
        case measure => simp [intOf]; omega
      · obtain rfl : j = 3 := by omega
        have hB : B = b + 3 * p := by omega
        have hO : O = o + 3 * (2 * p + s) := by omega
        clear hj hlt
        go_wp2_with (first | (refine wpList_store_box rfl S _ _ _ rfl 0 _ _ _ _ (atOf HL rfl) rfl _ rfl (by kernel_rfl) rfl rfl ?_; intro w L hM T; clear F S; (try rw [HL.out] at hM); clear HL; (try simp [Act.put, Act.eval, Value.cells, splice] at hM); have HL := Lib.hid hM; clear hM; have S := T; clear T; have F := factsAll HL S; (try simp only [factsOf, cellsFrom, and_true, true_and, Nat.reduceAdd] at F)) | (refine wpList_store_box rfl S _ _ _ rfl 1 _ _ _ _ (atOf HL rfl) rfl _ rfl (by kernel_rfl) rfl rfl ?_; intro w L hM T; clear F S; (try rw [HL.out] at hM); clear HL; (try simp [Act.put, Act.eval, Value.cells, splice] at hM); have HL := Lib.hid hM; clear hM; have S := T; clear T; have F := factsAll HL S; (try simp only [factsOf, cellsFrom, and_true, true_and, Nat.reduceAdd] at F)) | (refine wpList_store_box rfl S _ _ _ rfl 2 _ _ _ _ (atOf HL rfl) rfl _ rfl (by kernel_rfl) rfl rfl ?_; intro w L hM T; clear F S; (try rw [HL.out] at hM); clear HL; (try simp [Act.put, Act.eval, Value.cells, splice] at hM); have HL := Lib.hid hM; clear hM; have S := T; clear T; have F := factsAll HL S; (try simp only [factsOf, cellsFrom, and_true, true_and, Nat.reduceAdd] at F)) | (go_at_call 70; refine (C_l18Product _ _ _ _ _ _ _ rr p p _ (by exact HE.out.2.1) (by exact HE.out.1) (by exact HE.out.2.2.2) ⟨by omega, by omega⟩ ⟨by omega, by omega⟩ ⟨by omega, by omega⟩ ⟨by omega, by omega⟩ ⟨by omega, by omega⟩ ⟨by omega, by omega⟩ ⟨by omega, by omega⟩).mono ?_; rintro e w ⟨rfl, hb⟩; replace S := S.grow hb; clear hb) | (go_at_call 70; refine (C_l18Product _ _ _ _ _ _ _ p rr p _ (by exact HE.out.1) (by exact HE.out.2.1) (by exact HE.out.1) ⟨by omega, by omega⟩ ⟨by omega, by omega⟩ ⟨by omega, by omega⟩ ⟨by omega, by omega⟩ ⟨by omega, by omega⟩ ⟨by omega, by omega⟩ ⟨by omega, by omega⟩).mono ?_; rintro e w ⟨rfl, hb⟩; replace S := S.grow hb; clear hb))
        ((try simp only [Exit.inBlock, Exit.then]); refine ret1 rfl (resCell S HL 0 rfl rfl (by kernel_rfl)) rfl ?_)
        refine ⟨?_, S.below⟩
        congr 4
        all_goals first | rfl | omega | (simp; done) | (simp; omega)
end Go.Proofs.Ytiiijfhacaomdaa
