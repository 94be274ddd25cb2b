/- NdI NdJ -/
import Derived.Test.YtjgfjfjboimgdaaGreatY57
import Derived.Test.YtjgfjfjboimgdaaGreatY64
namespace Go.Proofs.YtjgfjfjboimgdaaGreat
set_option linter.unusedSimpArgs false
set_option linter.unusedVariables false
set_option linter.unusedSectionVars false
open Go Go.RowKit
set_option maxHeartbeats 8000000
set_option maxRecDepth 20000
section
theorem wrap64_low {z : Int} (h : 0 ≤ z ∧ z ≤ 100000000) : wrap64 z = z := by unfold wrap64; omega
theorem C_AddLow (a b c d x y z t : Int) (w0 : World) (ha : 0 ≤ a ∧ a ≤ 1000000) (hb : 0 ≤ b ∧ b ≤ 1000000) (hc : 0 ≤ c ∧ c ≤ 1000000) (hd : 0 ≤ d ∧ d ≤ 1000000) (hx : 0 ≤ x ∧ x ≤ 1000000) (hy : 0 ≤ y ∧ y ≤ 1000000) (hz : 0 ≤ z ∧ z ≤ 1000000) (ht : 0 ≤ t ∧ t ≤ 1000000) :
    Calls Tryz.prog 86 #[.agg #[.int .i64 a, .int .i64 b, .int .i64 c, .int .i64 d], .agg #[.int .i64 x, .int .i64 y, .int .i64 z, .int .i64 t]] w0 fun e w' => e = .returned (.agg #[.int .i64 (a + x), .int .i64 (b + y), .int .i64 (c + z), .int .i64 (d + t)]) ∧ Below w0.heap.size w0 w' := by
  have h := C_impl_AddNeeds a b c d x y z t w0
  rw [wrap64_low (z := a + x) (by omega), wrap64_low (z := b + y) (by omega), wrap64_low (z := c + z) (by omega), wrap64_low (z := d + t) (by omega)] at h
  exact h
theorem C_lookNeeds (m : Int) (w0 : World) : Calls Tryz.prog 221 #[.int .i64 m] w0 fun e w' => e = .returned (.agg #[.int .i64 0, .int .i64 0, .int .i64 m, .int .i64 m]) ∧ Below w0.heap.size w0 w' := by
  obtain ⟨L, HL, S⟩ := st_start w0; have F : True := trivial
  go_enter Tryz.func221, Tryz.ntmps221
  go_wp2_with (first | (refine qbx HL S ?_; clear F S HL; intro g w L HL S F) | (refine qal HL S zNd ?_; clear F S HL; intro g w L HL S F) | (refine qst HL S 0 ?_; clear F S HL; intro w L HL S F) | (refine qst HL S 1 ?_; clear F S HL; intro w L HL S F) | (refine qst HL S 2 ?_; clear F S HL; intro w L HL S F) | (refine qst HL S 3 ?_; clear F S HL; intro w L HL S F)  )
  ((try simp only [Exit.inBlock, Exit.then]); refine ret1 rfl (resCell S HL 0 rfl rfl (by kernel_rfl)) rfl ?_)
  exact ⟨rfl, S.below⟩
theorem C_cutProductNeeds (r i c p q s : Int) (w0 : World) (e1 : r * c = p) (e2 : r * i = q) (e3 : i * c = s) (hp : 0 ≤ p ∧ p ≤ 25) (hq : 0 ≤ q ∧ q ≤ 25) (hs : 0 ≤ s ∧ s ≤ 25) :
    Calls Tryz.prog 219 #[.int .i64 r, .int .i64 i, .int .i64 c] w0 fun e w' => e = .returned (.agg #[.int .i64 0, .int .i64 1, .int .i64 p, .int .i64 (q + s + p)]) ∧ Below w0.heap.size w0 w' := by
  obtain ⟨hp1, hp2⟩ := hp
  obtain ⟨hq1, hq2⟩ := hq
  obtain ⟨hs1, hs2⟩ := hs
  obtain ⟨L, HL, S⟩ := st_start w0; have F : True := trivial
  go_enter Tryz.func219, Tryz.ntmps219
  go_upto_region 1 with (first | (refine qal HL S zNd ?_; clear F S HL; intro g w L HL S F))
  go_upto_region 2 with (first | (refine qal HL S zNd ?_; clear F S HL; intro g w L HL S F) | (refine qst HL S 0 ?_; clear F S HL; intro w L HL S F))
  have HL0 := HL; have F0 := F; refine wp_region_tree (S := fun w' => St w0 w' L) (qcs 0 4 (.act 4 (.act 5 (.act 6 .fin .stop) .stop) .stop)) (by kernel_rfl) (by kernel_rfl) (by kernel_rfl) (by intro c a d v w h; cases d <;> exact h) ?_; dsimp only [qcs, Nat.reduceAdd]; replace S := S.drew
  repeat (first | refine qCa ?_ | refine qAn ?_ | refine qSk ?_ | (refine tree_act rfl rfl ?_ tree_stop; intro K hK; (refine qsw HL S 0 ?_; clear F S HL; intro w L HL S F); (refine qKo hK ?_; clear hK K)) | (refine tree_act rfl rfl ?_ tree_stop; intro K hK; (refine qsw HL S 1 ?_; clear F S HL; intro w L HL S F); (refine qKo hK ?_; clear hK K)) | (refine tree_act rfl rfl ?_ tree_stop; intro K hK; go_wp2_with (first | (go_at_call 221; refine qGr S (C_lookNeeds _ _) ?_; clear S; intro w S) | (go_at_call 86; refine qGr S (C_AddLow _ _ _ _ _ _ _ _ _ ⟨by omega, by omega⟩ ⟨by omega, by omega⟩ ⟨by omega, by omega⟩ ⟨by omega, by omega⟩ ⟨by omega, by omega⟩ ⟨by omega, by omega⟩ ⟨by omega, by omega⟩ ⟨by omega, by omega⟩) ?_; clear S; intro w S)); (refine qKo hK ?_; clear hK K)))
  refine tree_fin ?_
  go_wp2
  ((try simp only [Exit.inBlock, Exit.then]); refine ret1 rfl (resCell S HL 1 rfl rfl (by kernel_rfl)) rfl ?_)
  refine ⟨?_, S.below⟩
  congr 4
  all_goals first | rfl | omega | (simp; done) | (simp; omega)
theorem C_cutScaleNeeds (m : Int) (w0 : World) (hm : 0 ≤ m ∧ m ≤ 100) :
    Calls Tryz.prog 230 #[.int .i64 m] w0 fun e w' => e = .returned (.agg #[.int .i64 m, .int .i64 0, .int .i64 m, .int .i64 (2 * m + m)]) ∧ Below w0.heap.size w0 w' := by
  obtain ⟨hm1, hm2⟩ := hm
  obtain ⟨L, HL, S⟩ := st_start w0; have F : True := trivial
  go_enter Tryz.func230, Tryz.ntmps230
  go_wp2_with (first | (refine qbx HL S ?_; clear F S HL; intro g w L HL S F) | (refine qal HL S zNd ?_; clear F S HL; intro g w L HL S F) | (refine qst HL S 0 ?_; clear F S HL; intro w L HL S F) | (refine qst HL S 1 ?_; clear F S HL; intro w L HL S F) | (refine qst HL S 2 ?_; clear F S HL; intro w L HL S F) | (refine qst HL S 3 ?_; clear F S HL; intro w L HL S F)  | (go_at_call 221; refine qGr S (C_lookNeeds _ _) ?_; clear S; intro w S) | (go_at_call 86; refine qGr S (C_AddLow _ _ _ _ _ _ _ _ _ ⟨by omega, by omega⟩ ⟨by omega, by omega⟩ ⟨by omega, by omega⟩ ⟨by omega, by omega⟩ ⟨by omega, by omega⟩ ⟨by omega, by omega⟩ ⟨by omega, by omega⟩ ⟨by omega, by omega⟩) ?_; clear S; intro w S))
  ((try simp only [Exit.inBlock, Exit.then]); refine ret1 rfl (resCell S HL 0 rfl rfl (by kernel_rfl)) rfl ?_)
  refine ⟨?_, S.below⟩
  congr 4
  all_goals first | rfl | omega | (simp; done) | (simp; omega)
theorem C_needsDense (a c b1 b2 r q p p2 p3 : Int) (A B : Option Addr) (n n' cap cap' : Nat) (w0 : World) (e1 : a * q = p) (e2 : a * r = p2) (e3 : r * q = p3) (h1 : 0 ≤ p ∧ p ≤ 25) (h2 : 0 ≤ p2 ∧ p2 ≤ 25) (h3 : 0 ≤ p3 ∧ p3 ≤ 25) :
    Calls Tryz.prog 216 #[.agg #[.int .i64 a, .int .i64 c, .slice A n cap, .int .i64 b1, .int .i64 b2, .slice B n' cap'], .int .i64 r, .int .i64 q] w0 fun e w' => e = .returned (.agg #[.int .i64 0, .int .i64 1, .int .i64 p, .int .i64 (p2 + p3 + p)]) ∧ Below w0.heap.size w0 w' := by
  have HE := Lib.hid (And.intro e1 (And.intro e2 e3))
  clear e1 e2 e3
  obtain ⟨L, HL, S⟩ := st_start w0; have F : True := trivial
  go_enter Tryz.func216, Tryz.ntmps216
  go_wp2_with (first | (refine qbx HL S ?_; clear F S HL; intro g w L HL S F) | (refine qal HL S zNd ?_; clear F S HL; intro g w L HL S F) | (refine qst HL S 0 ?_; clear F S HL; intro w L HL S F) | (refine qst HL S 1 ?_; clear F S HL; intro w L HL S F) | (refine qst HL S 2 ?_; clear F S HL; intro w L HL S F) | (refine qst HL S 3 ?_; clear F S HL; intro w L HL S F)  | (go_at_call 219; refine qGr S (C_cutProductNeeds _ _ _ p p2 p3 _ (by exact HE.out.1) (by exact HE.out.2.1) (by exact HE.out.2.2) h1 h2 h3) ?_; clear S; intro w S))
  ((try simp only [Exit.inBlock, Exit.then]); refine ret1 rfl (resCell S HL 0 rfl rfl (by kernel_rfl)) rfl ?_)
  exact ⟨rfl, S.below⟩
theorem C_needsRamp (r q p : Int) (w0 : World) (e1 : r * q = p) (h1 : 0 ≤ p ∧ p ≤ 25) :
    Calls Tryz.prog 224 #[.agg #[], .int .i64 r, .int .i64 q] w0 fun e w' => e = .returned (.agg #[.int .i64 0, .int .i64 0, .int .i64 p, .int .i64 p]) ∧ Below w0.heap.size w0 w' := by
  obtain ⟨h1, h2⟩ := h1
  obtain ⟨L, HL, S⟩ := st_start w0; have F : True := trivial
  go_enter Tryz.func224, Tryz.ntmps224
  go_wp2_with (first | (refine qbx HL S ?_; clear F S HL; intro g w L HL S F) | (refine qal HL S zNd ?_; clear F S HL; intro g w L HL S F) | (refine qst HL S 0 ?_; clear F S HL; intro w L HL S F) | (refine qst HL S 1 ?_; clear F S HL; intro w L HL S F) | (refine qst HL S 2 ?_; clear F S HL; intro w L HL S F) | (refine qst HL S 3 ?_; clear F S HL; intro w L HL S F)  | (go_at_call 221; refine qGr S (C_lookNeeds _ _) ?_; clear S; intro w S))
  ((try simp only [Exit.inBlock, Exit.then]); refine ret1 rfl (resCell S HL 0 rfl rfl (by kernel_rfl)) rfl ?_)
  exact ⟨rfl, S.below⟩
theorem C_needsMix (A : Option Addr) (cap : Nat) (r q p rr s : Int) (w0 : World) (hr : 1 ≤ r ∧ r ≤ 5) (hq : 1 ≤ q ∧ q ≤ 5) (e1 : r * q = p) (e2 : r * r = rr) (e3 : q * q = s) :
    Calls Tryz.prog 227 #[.agg #[.slice A 3 cap], .int .i64 r, .int .i64 q] w0 fun e w' => e = .returned (.agg #[.int .i64 rr, .int .i64 5, .int .i64 (3 * p + rr + p + 2 * rr + r), .int .i64 (3 * (p + s + p) + (p + p + rr) + (rr + p + p) + 4 * rr + r)]) ∧ Below w0.heap.size w0 w' := by
  have p1 := prod_bd hr hq
  have p2 := prod_bd hr hr
  have p3 := prod_bd hq hq
  have e4 : q * r = p := by rw [Int.mul_comm]; exact e1
  rw [e1] at p1
  rw [e2] at p2
  rw [e3] at p3
  obtain ⟨hr1, hr2⟩ := hr
  obtain ⟨hq1, hq2⟩ := hq
  have HE := Lib.hid (And.intro e1 (And.intro e2 (And.intro e3 e4)))
  clear e1 e3 e4
  obtain ⟨L, HL, S⟩ := st_start w0; have F : True := trivial
  go_enter Tryz.func227, Tryz.ntmps227
  go_upto_region 1 with (first | (refine qbd 3 HL S ?_; clear F S HL; intro g3 w L HL S F) | (refine qal HL S zNd ?_; clear F S HL; intro g6 w L HL S F))
  go_upto_region 2 with (first | (refine qal HL S zNd ?_; clear F S HL; intro g7 w L HL S F))
  go_wp2
  go_loopw [11] (fun i wr => ∃ (j : Nat) (B O : Int) (L : List Ent), (j = 0 ∧ B = 0 ∧ O = 0 ∨ j = 1 ∧ B = p ∧ O = 2 * p + s ∨ j = 2 ∧ B = 2 * p ∧ O = 2 * (2 * p + s) ∨ j = 3 ∧ B = 3 * p ∧ O = 3 * (2 * p + s)) ∧ i = .int .i64 j ∧ Hid (L = [.box g7 71 [.int .i64 0, .int .i64 j, .int .i64 B, .int .i64 O], .box g6 71 [.int .i64 0, .int .i64 0, .int .i64 0, .int .i64 0], .box g3 154 [.slice A 3 cap]]) ∧ St w0 wr L) (fun i _ => 3 - (intOf i).toNat)
  case atStart => exact ⟨0, 0, 0, L, .inl ⟨rfl, rfl, rfl⟩, rfl, HL, S⟩
  case round =>
    clear F HL S
    obtain ⟨j, B, O, L, hj, rfl, HL, S⟩ := hrel
    have F := factsAll HL S
    simp only [factsOf, cellsFrom, and_true, true_and, Nat.reduceAdd] at F
    by_cases hlt : j < 3
    · have hB : 0 ≤ B ∧ B ≤ 2000 := by omega
      have hO : 0 ≤ O ∧ O ≤ 2000 := by omega
      obtain ⟨hB1, hB2⟩ := hB
      obtain ⟨hO1, hO2⟩ := hO
      go_wp2
      have HL0 := HL; have F0 := F; refine wp_region_tree (S := fun w' => St w0 w' L) (qcs 0 4 (.act 4 (.act 5 (.act 6 .fin .stop) .stop) .stop)) (by kernel_rfl) (by kernel_rfl) (by kernel_rfl) (by intro c a d v w h; cases d <;> exact h) ?_; dsimp only [qcs, Nat.reduceAdd]; replace S := S.drew
      repeat (first | refine qCa ?_ | refine qAn ?_ | refine qSk ?_ | (refine tree_act rfl rfl ?_ tree_stop; intro K hK; (refine qsw HL S 0 ?_; clear F S HL; intro w L HL S F); (refine qKo hK ?_; clear hK K)) | (refine tree_act rfl rfl ?_ tree_stop; intro K hK; go_wp2_with (first | (go_at_call 219; refine qGr S (C_cutProductNeeds _ _ _ p p s _ (by exact HE.out.1) (by exact HE.out.1) (by exact HE.out.2.2.1) ⟨by omega, by omega⟩ ⟨by omega, by omega⟩ ⟨by omega, by omega⟩) ?_; clear S; intro w S) | (go_at_call 86; refine qGr S (C_AddLow _ _ _ _ _ _ _ _ _ ⟨by omega, by omega⟩ ⟨by omega, by omega⟩ ⟨by omega, by omega⟩ ⟨by omega, by omega⟩ ⟨by omega, by omega⟩ ⟨by omega, by omega⟩ ⟨by omega, by omega⟩ ⟨by omega, by omega⟩) ?_; clear S; intro w S)); (refine qKo hK ?_; clear hK K)))
      refine tree_fin ?_
      go_wp2
      go_roundw
      case rel => exact ⟨j + 1, B + p, O + (p + s + p), L, by omega, by go_num, Lib.hid (by rw [HL.out]; simp <;> omega), S⟩
      case measure => simp [intOf]; omega
    · obtain rfl : j = 3 := by omega
      have hB : B = 3 * p := by omega
      have hO : O = 3 * (2 * p + s) := by omega
      have hB1 : 0 ≤ B ∧ B ≤ 2000 := by omega
      have hO1 : 0 ≤ O ∧ O ≤ 2000 := by omega
      have HB := Lib.hid (And.intro hB hO)
      obtain ⟨hB1, hB2⟩ := hB1
      obtain ⟨hO1, hO2⟩ := hO1
      clear hj hlt hB hO
      go_wp2
      have HL0 := HL; have F0 := F; refine wp_region_tree (S := fun w' => St w0 w' L) (qcs 0 4 (.act 4 (.act 5 (.act 6 .fin .stop) .stop) .stop)) (by kernel_rfl) (by kernel_rfl) (by kernel_rfl) (by intro c a d v w h; cases d <;> exact h) ?_; dsimp only [qcs, Nat.reduceAdd]; replace S := S.drew
      repeat (first | refine qCa ?_ | refine qAn ?_ | refine qSk ?_ | (refine tree_act rfl rfl ?_ tree_stop; intro K hK; (refine qsw HL S 0 ?_; clear F S HL; intro w L HL S F); (refine qKo hK ?_; clear hK K)) | (refine tree_act rfl rfl ?_ tree_stop; intro K hK; go_wp2_with (first | (go_at_call 219; refine qGr S (C_cutProductNeeds _ _ _ rr p p _ (by exact HE.out.2.1) (by exact HE.out.1) (by exact HE.out.2.2.2) ⟨by omega, by omega⟩ ⟨by omega, by omega⟩ ⟨by omega, by omega⟩) ?_; clear S; intro w S) | (go_at_call 86; refine qGr S (C_AddLow _ _ _ _ _ _ _ _ _ ⟨by omega, by omega⟩ ⟨by omega, by omega⟩ ⟨by omega, by omega⟩ ⟨by omega, by omega⟩ ⟨by omega, by omega⟩ ⟨by omega, by omega⟩ ⟨by omega, by omega⟩ ⟨by omega, by omega⟩) ?_; clear S; intro w S)); (refine qKo hK ?_; clear hK K)))
      refine tree_fin ?_
      clear HL0 F0
      go_wp2
      have w2 : IntKind.i64.wrap rr = rr := by rw [IntKind.wrap_i64]; omega
      have w3 : IntKind.i64.wrap (rr + r) = rr + r := by rw [IntKind.wrap_i64]; omega
      have HL0 := HL; have F0 := F; refine wp_region_tree (S := fun w' => St w0 w' L) (qcs 0 6 (.act 6 (.act 7 (.act 8 .fin .stop) .stop) .stop)) (by kernel_rfl) (by kernel_rfl) (by kernel_rfl) (by intro c a d v w h; cases d <;> exact h) ?_; dsimp only [qcs, Nat.reduceAdd]; replace S := S.drew
      repeat (first | refine qCa ?_ | refine qAn ?_ | refine qSk ?_ | (refine tree_act rfl rfl ?_ tree_stop; intro K hK; (refine qsw HL S 0 ?_; clear F S HL; intro w L HL S F); (refine qKo hK ?_; clear hK K)) | (refine tree_act rfl rfl ?_ tree_stop; intro K hK; go_wp2_with (first | (go_at_call 221; refine qGr S (C_lookNeeds _ _) ?_; clear S; intro w S) | (go_at_call 86; refine qGr S (C_AddLow _ _ _ _ _ _ _ _ _ ⟨by omega, by omega⟩ ⟨by omega, by omega⟩ ⟨by omega, by omega⟩ ⟨by omega, by omega⟩ ⟨by omega, by omega⟩ ⟨by omega, by omega⟩ ⟨by omega, by omega⟩ ⟨by omega, by omega⟩) ?_; clear S; intro w S)); (refine qKo hK ?_; clear hK K)))
      refine tree_fin ?_
      clear HL0 F0
      go_wp2
      have HL0 := HL; have F0 := F; refine wp_region_tree (S := fun w' => St w0 w' L) (qcs 0 4 (.act 4 (.act 5 (.act 6 .fin .stop) .stop) .stop)) (by kernel_rfl) (by kernel_rfl) (by kernel_rfl) (by intro c a d v w h; cases d <;> exact h) ?_; dsimp only [qcs, Nat.reduceAdd]; replace S := S.drew
      repeat (first | refine qCa ?_ | refine qAn ?_ | refine qSk ?_ | (refine tree_act rfl rfl ?_ tree_stop; intro K hK; (refine qsw HL S 0 ?_; clear F S HL; intro w L HL S F); (refine qKo hK ?_; clear hK K)) | (refine tree_act rfl rfl ?_ tree_stop; intro K hK; go_wp2_with (first | (go_at_call 230; refine qGr S (C_cutScaleNeeds _ _ ⟨by omega, by omega⟩) ?_; clear S; intro w S) | (go_at_call 86; refine qGr S (C_AddLow _ _ _ _ _ _ _ _ _ ⟨by omega, by omega⟩ ⟨by omega, by omega⟩ ⟨by omega, by omega⟩ ⟨by omega, by omega⟩ ⟨by omega, by omega⟩ ⟨by omega, by omega⟩ ⟨by omega, by omega⟩ ⟨by omega, by omega⟩) ?_; clear S; intro w S)); (refine qKo hK ?_; clear hK K)))
      refine tree_fin ?_
      clear HL0 F0
      go_wp2
      have HL0 := HL; have F0 := F; refine wp_region_tree (S := fun w' => St w0 w' L) (qcs 0 4 (.act 4 (.act 5 (.act 6 .fin .stop) .stop) .stop)) (by kernel_rfl) (by kernel_rfl) (by kernel_rfl) (by intro c a d v w h; cases d <;> exact h) ?_; dsimp only [qcs, Nat.reduceAdd]; replace S := S.drew
      repeat (first | refine qCa ?_ | refine qAn ?_ | refine qSk ?_ | (refine tree_act rfl rfl ?_ tree_stop; intro K hK; (refine qsw HL S 0 ?_; clear F S HL; intro w L HL S F); (refine qKo hK ?_; clear hK K)) | (refine tree_act rfl rfl ?_ tree_stop; intro K hK; (refine qsw HL S 1 ?_; clear F S HL; intro w L HL S F); (refine qKo hK ?_; clear hK K)) | (refine tree_act rfl rfl ?_ tree_stop; intro K hK; go_wp2_with (first | (go_at_call 219; refine qGr S (C_cutProductNeeds _ _ _ p rr p _ (by exact HE.out.1) (by exact HE.out.2.1) (by exact HE.out.1) ⟨by omega, by omega⟩ ⟨by omega, by omega⟩ ⟨by omega, by omega⟩) ?_; clear S; intro w S) | (go_at_call 86; refine qGr S (C_AddLow _ _ _ _ _ _ _ _ _ ⟨by omega, by omega⟩ ⟨by omega, by omega⟩ ⟨by omega, by omega⟩ ⟨by omega, by omega⟩ ⟨by omega, by omega⟩ ⟨by omega, by omega⟩ ⟨by omega, by omega⟩ ⟨by omega, by omega⟩) ?_; clear S; intro w S)); (refine qKo hK ?_; clear hK K)))
      refine tree_fin ?_
      go_wp2
      ((try simp only [Exit.inBlock, Exit.then]); refine ret1 rfl (resCell S HL 1 rfl rfl (by kernel_rfl)) rfl ?_)
      refine ⟨?_, S.below⟩
      obtain ⟨rfl, rfl⟩ := HB.out
      congr 4
      all_goals first | rfl | omega | (simp; done) | (simp; omega)
end
section
theorem m_needsDense (a c b1 b2 : Int) (A B : Option Addr) (n n' cap cap' : Nat) (w : World) : (method 323 149 (.agg #[.int .i64 a, .int .i64 c, .slice A n cap, .int .i64 b1, .int .i64 b2, .slice B n' cap']) "loop.example/sharedinference/impl.needs").run Tryz.prog w = .ok (216, .agg #[.int .i64 a, .int .i64 c, .slice A n cap, .int .i64 b1, .int .i64 b2, .slice B n' cap']) w := by kernel_rfl
theorem m_needsRamp  (w : World) : (method 323 151 (.agg #[]) "loop.example/sharedinference/impl.needs").run Tryz.prog w = .ok (224, .agg #[]) w := by kernel_rfl
theorem m_needsMix (A : Option Addr) (n cap : Nat) (w : World) : (method 323 154 (.agg #[.slice A n cap]) "loop.example/sharedinference/impl.needs").run Tryz.prog w = .ok (227, .agg #[.slice A n cap]) w := by kernel_rfl
theorem sidesFrom_all : ∀ (ls : List Ly) (r c : Int) (x : Int × Int), sidesFrom ls r c = some x → ls.all Ly.ok = true
  | [], _, _, _, _ => rfl
  | l :: ls, r, c, x, h => by
    unfold sidesFrom at h
    split at h
    · rename_i hok
      split at h
      · rw [List.all_cons, hok, sidesFrom_all ls _ _ _ h]; rfl
      · cases h
    · cases h
theorem C_impl_NeedsOf (v : Value) (ls : List Ly) (r c : Int) (y : Need) (w0 : World) (h : SeesLs w0 v ls) (hy : netNeeds ls r c = y) :
    Calls Tryz.prog 39 #[v, .int .i64 r, .int .i64 c] w0 fun e w' => e = .returned (.agg #[.int .i64 y.t, .int .i64 y.m, .int .i64 y.b, .int .i64 y.o]) ∧ Below w0.heap.size w0 w' := by
  have H := Lib.hid h
  obtain ⟨A, cap, rfl, hcap, hmax, _⟩ := h
  obtain ⟨z, hz⟩ : ∃ z, netSides ls r c = z := ⟨_, rfl⟩
  have HZ := Lib.hid hz
  have CS := fun v w h => C_impl_NetSides v ls r c z w h HZ.out
  unfold netNeeds at hy
  rw [hz] at hy
  cases z with
  | none =>
    subst hy
    clear hz
    unfold sidesRes at CS
    obtain ⟨L, HL, S⟩ := st_start w0; have F : True := trivial
    go_enter Tryz.func39, Tryz.ntmps39
    go_wp2_with (first | (refine qbx HL S ?_; clear F S HL; intro g w L HL S F) | (refine qal HL S zNd ?_; clear F S HL; intro g w L HL S F) | (refine qst HL S 0 ?_; clear F S HL; intro w L HL S F) | (refine qst HL S 1 ?_; clear F S HL; intro w L HL S F) | (refine qst HL S 2 ?_; clear F S HL; intro w L HL S F) | (refine qst HL S 3 ?_; clear F S HL; intro w L HL S F)  | (go_at_call 73; refine qGr S (CS _ _ (H.out.at_ S)) ?_; clear S; intro w S))
    ((try simp only [Exit.inBlock, Exit.then]); refine ret1 rfl (resCell S HL 0 rfl rfl (by kernel_rfl)) rfl ?_)
    exact ⟨rfl, S.below⟩
  | some x =>
    obtain ⟨x1, x2⟩ := x
    dsimp only at hy
    unfold sidesRes at CS
    dsimp only at CS
    obtain ⟨h4, q1, q2, hs⟩ := netSides_some hz
    have hball : (decide (ls.length ≤ 4) && ls.all Ly.ok) = true := by rw [decide_eq_true h4, sidesFrom_all _ _ _ _ hs]; rfl
    have HBALL := Lib.hid hball
    obtain ⟨n, hn⟩ : ∃ n, ls.length = n := ⟨_, rfl⟩
    rw [hn] at hcap h4 H ⊢
    have HN := Lib.hid hn
    have HS := Lib.hid hs
    have HY := Lib.hid hy
    clear hz hn hs hy HZ hball
    unfold maxLen at hmax
    obtain ⟨L, HL, S⟩ := st_start w0; have F : True := trivial
    go_enter Tryz.func39, Tryz.ntmps39
    go_upto_region 1 with (first | (refine qal HL S zNd ?_; clear F S HL; intro g6 w L HL S F))
    go_upto_region 5 with (first | (go_at_call 73; refine qGr S (CS _ _ (by exact H.out.at_ S)) ?_; clear S; intro w S) | (go_at_call 85; refine (C_layersOfOwn _ ls true w0 _ S.below (by exact H.out) HBALL.out).mono ?_; rintro e w ⟨u, cs, rfl, hcs1, _, hif, T0⟩; obtain ⟨L, hM, T⟩ := st_name (S.call T0); clear T0; have HIF := Lib.hid hif; have HCS := Lib.hid ((hcs1 rfl).trans HN.out); clear hif hcs1; rw [HCS.out] at hM; clear F S; replace HL := qNm HL hM; clear hM; have S := T; clear T; have F := qFc HL S; obtain ⟨A', cap', rfl, hcap', hmax'⟩ := qSl HL S 0))
    go_upto_region 6 with (first | (refine qal HL S zNd ?_; clear F S HL; intro g7 w L HL S F))
    go_wp2
    go_loopw [1, 2, 33] (fun r' c' i wr => ∃ (j : Nat) (r1 c1 t m b o : Int) (L : List Ent), j ≤ n ∧ i = .int .i64 j ∧ r' = .int .i64 r1 ∧ c' = .int .i64 c1 ∧ Hid ((1 ≤ r1 ∧ r1 ≤ 5) ∧ (1 ≤ c1 ∧ c1 ≤ 5) ∧ sidesFrom (ls.drop j) r1 c1 = some (x1, x2) ∧ (Need.mk t m b o).add (needsFrom (ls.drop j) r1 c1) = y) ∧ (0 ≤ t ∧ t ≤ 1000 * j) ∧ (0 ≤ m ∧ m ≤ 1000 * j) ∧ (0 ≤ b ∧ b ≤ 1000 * j) ∧ (0 ≤ o ∧ o ≤ 1000 * j) ∧ Hid (L = [.box g7 71 [.int .i64 t, .int .i64 m, .int .i64 b, .int .i64 o], .row 97 1 (.slice A' n cap') n cs, .box g6 71 [.int .i64 0, .int .i64 0, .int .i64 0, .int .i64 0]]) ∧ St w0 wr L) (fun _ _ i _ => n - (intOf i).toNat)
    case atStart => exact ⟨0, r, c, 0, 0, 0, 0, L, Nat.zero_le _, rfl, rfl, rfl, Lib.hid ⟨q1, q2, HS.out, by rw [← HY.out]; simp [Need.add]⟩, by omega, by omega, by omega, by omega, HL, S⟩
    case round =>
      clear S HS HY HL F CS
      obtain ⟨j, r1, c1, t, m, b, o, L, hj, rfl, rfl, rfl, HR, ht, hm, hb, ho, HL, S⟩ := hrel
      have F := factsAll HL S
      simp only [factsOf, cellsFrom, and_true, true_and, Nat.reduceAdd] at F
      obtain ⟨hr1, hc1, hsd, hsum⟩ := HR.out
      by_cases hlt : j < n
      · rcases S.rowShape (atOf HL (p := 1) rfl) with ⟨_, h0⟩ | ⟨gr, cr, he, _, _⟩
        · omega
        simp only [Value.slice.injEq, true_and] at he
        obtain ⟨rfl, rfl⟩ := he
        obtain ⟨l, hl⟩ := some_at HN.out hlt
        obtain ⟨x, hx⟩ := some_at HCS.out hlt
        have hif := HIF.out j l x hl hx
        have hcell := fun w' (S' : St w0 w' L) => (S'.rowCell (atOf HL (p := 1) rfl) j (by omega)).trans hx
        rw [drop_at hl] at hsd hsum
        obtain ⟨a, d', hok, hs, ha, hd, hrest⟩ := sidesFrom_cons hr1 hc1 hsd
        rw [needsFrom_cons hs] at hsum
        have HREST := Lib.hid hrest
        have HAD := Lib.hid (And.intro ha hd)
        clear HR ha hd hrest
        have p1 := prod_bd hr1 hc1
        have p2 := prod_bd hr1 hr1
        have p3 := prod_bd hc1 hc1
        obtain ⟨p, e1⟩ : ∃ p, r1 * c1 = p := ⟨_, rfl⟩
        rw [e1] at p1
        cases Ly.ok_case hok with
        | dense wm d hd =>
              simp only [denseFit, Bool.and_eq_true] at hd
              have hsi := Mx.ok_sides hd.1.1.1
              have p4 := prod_bd hsi.1 hc1
              have p5 := prod_bd hsi.1 hr1
              obtain ⟨p6, e2⟩ : ∃ p, wm.r * c1 = p := ⟨_, rfl⟩
              obtain ⟨p7, e3⟩ : ∃ p, wm.r * r1 = p := ⟨_, rfl⟩
              rw [e2] at p4
              rw [e3] at p5
              have hz4 : (Ly.mk 1 [wm, d]).needs r1 c1 = ⟨0, 1, p6, p7 + p + p6⟩ := by simp only [Ly.needs, prodNeed, e1, e2, e3]
              have had : a = wm.r ∧ d' = c1 := by
                simp only [Ly.sides] at hs
                split at hs
                · injection hs with hs
                  injection hs with h1 h2
                  exact ⟨h1.symm, h2.symm⟩
                · cases hs
              obtain ⟨rfl, rfl⟩ := had
              obtain ⟨u, v, rfl, hu, hv⟩ := hif
              obtain ⟨_, Au, cu, rfl, _⟩ := hu
              obtain ⟨_, Av, cv, rfl, _⟩ := hv
              have HE := Lib.hid (And.intro e1 (And.intro e2 e3))
              have hm1' := m_needsDense wm.r wm.c d.r d.c Au Av wm.xs.length d.xs.length cu cv
              have hm2' := m_sidesDense wm.r wm.c d.r d.c Au Av wm.xs.length d.xs.length cu cv
              have hbd := Ly.needs_bd hok hr1 hc1
              rw [hz4] at hsum hbd
              simp only [Need.within] at hbd
              obtain ⟨⟨bt1, bt2⟩, ⟨bm1, bm2⟩, ⟨bb1, bb2⟩, bo1, bo2⟩ := hbd
              obtain ⟨⟨ht1, ht2⟩, ⟨hm1, hm2⟩, ⟨hb1, hb2⟩, ho1, ho2⟩ := And.intro ht (And.intro hm (And.intro hb ho))
              have HSUM := Lib.hid hsum
              clear hsum hok hs hsd ht hm hb ho hl hx e1 e2 e3
              go_wp2
              have HL0 := HL; have F0 := F; refine wp_region_tree (S := fun w' => St w0 w' L) (qcs 0 4 (.act 4 (.act 5 (.act 6 .fin .stop) .stop) .stop)) (by kernel_rfl) (by kernel_rfl) (by kernel_rfl) (by intro c a d v w h; cases d <;> exact h) ?_; dsimp only [qcs, Nat.reduceAdd]; replace S := S.drew
              repeat (first | refine qCa ?_ | refine qAn ?_ | refine qSk ?_ | (refine tree_act rfl rfl ?_ tree_stop; intro K hK; (refine qsw HL S 0 ?_; clear F S HL; intro w L HL S F); (refine qKo hK ?_; clear hK K)) | (refine tree_act rfl rfl ?_ tree_stop; intro K hK; go_wp2_with (first | (go_at_call 216; refine qGr S (C_needsDense _ _ _ _ _ _ p6 p7 p _ _ _ _ _ _ _ (by exact HE.out.2.1) (by exact HE.out.2.2) (by exact HE.out.1) ⟨by omega, by omega⟩ ⟨by omega, by omega⟩ ⟨by omega, by omega⟩) ?_; clear S; intro w S) | (go_at_call 86; refine qGr S (C_AddLow _ _ _ _ _ _ _ _ _ ⟨by omega, by omega⟩ ⟨by omega, by omega⟩ ⟨by omega, by omega⟩ ⟨by omega, by omega⟩ ⟨by omega, by omega⟩ ⟨by omega, by omega⟩ ⟨by omega, by omega⟩ ⟨by omega, by omega⟩) ?_; clear S; intro w S)); (refine qKo hK ?_; clear hK K)))
              refine tree_fin ?_
              clear HL0 F0 hcell
              go_wp2_with (first | (go_at_call 218; refine qGr S (C_sidesDense _ _ _ _ _ _ _ _ _ _ _ _ _) ?_; clear S; intro w S))
              go_roundw
              case rel =>
                refine ⟨j + 1, wm.r, d', t + 0, m + 1, b + p6, o + (p7 + p + p6), L, by omega, by go_num, rfl, rfl, Lib.hid ⟨HAD.out.1, HAD.out.2, HREST.out, ?_⟩, by omega, by omega, by omega, by omega, (by first | exact HL | simpa using HL), S⟩
                rw [← HSUM.out]
                simp only [Need.add, Need.mk.injEq]
                omega
              case measure => simp [intOf]; omega
        | ramp =>
              have hz4 : (Ly.mk 2 []).needs r1 c1 = ⟨0, 0, p, p⟩ := by simp only [Ly.needs, e1]
              have had : a = r1 ∧ d' = c1 := by
                simp only [Ly.sides, Option.some.injEq, Prod.mk.injEq] at hs
                exact ⟨hs.1.symm, hs.2.symm⟩
              obtain ⟨rfl, rfl⟩ := had
              obtain rfl : x = _ := hif
              have HE := Lib.hid e1
              have hm1' := m_needsRamp
              have hm2' := m_sidesRamp
              have hbd := Ly.needs_bd hok hr1 hc1
              rw [hz4] at hsum hbd
              simp only [Need.within] at hbd
              obtain ⟨⟨bt1, bt2⟩, ⟨bm1, bm2⟩, ⟨bb1, bb2⟩, bo1, bo2⟩ := hbd
              obtain ⟨⟨ht1, ht2⟩, ⟨hm1, hm2⟩, ⟨hb1, hb2⟩, ho1, ho2⟩ := And.intro ht (And.intro hm (And.intro hb ho))
              have HSUM := Lib.hid hsum
              clear hsum hok hs hsd ht hm hb ho hl hx e1
              go_wp2
              have HL0 := HL; have F0 := F; refine wp_region_tree (S := fun w' => St w0 w' L) (qcs 0 4 (.act 4 (.act 5 (.act 6 .fin .stop) .stop) .stop)) (by kernel_rfl) (by kernel_rfl) (by kernel_rfl) (by intro c a d v w h; cases d <;> exact h) ?_; dsimp only [qcs, Nat.reduceAdd]; replace S := S.drew
              repeat (first | refine qCa ?_ | refine qAn ?_ | refine qSk ?_ | (refine tree_act rfl rfl ?_ tree_stop; intro K hK; (refine qsw HL S 0 ?_; clear F S HL; intro w L HL S F); (refine qKo hK ?_; clear hK K)) | (refine tree_act rfl rfl ?_ tree_stop; intro K hK; go_wp2_with (first | (go_at_call 224; refine qGr S (C_needsRamp _ _ p _ (by exact HE.out) ⟨by omega, by omega⟩) ?_; clear S; intro w S) | (go_at_call 86; refine qGr S (C_AddLow _ _ _ _ _ _ _ _ _ ⟨by omega, by omega⟩ ⟨by omega, by omega⟩ ⟨by omega, by omega⟩ ⟨by omega, by omega⟩ ⟨by omega, by omega⟩ ⟨by omega, by omega⟩ ⟨by omega, by omega⟩ ⟨by omega, by omega⟩) ?_; clear S; intro w S)); (refine qKo hK ?_; clear hK K)))
              refine tree_fin ?_
              clear HL0 F0 hcell
              go_wp2_with (first | (go_at_call 226; refine qGr S (C_sidesRamp _ _ _) ?_; clear S; intro w S))
              go_roundw
              case rel =>
                refine ⟨j + 1, a, d', t + 0, m + 0, b + p, o + p, L, by omega, by go_num, rfl, rfl, Lib.hid ⟨HAD.out.1, HAD.out.2, HREST.out, ?_⟩, by omega, by omega, by omega, by omega, (by first | exact HL | simpa using HL), S⟩
                rw [← HSUM.out]
                simp only [Need.add, Need.mk.injEq]
                omega
              case measure => simp [intOf]; omega
        | mix y1 y2 y3 hd =>
              obtain ⟨p6, e2⟩ : ∃ p, r1 * r1 = p := ⟨_, rfl⟩
              obtain ⟨p7, e3⟩ : ∃ p, c1 * c1 = p := ⟨_, rfl⟩
              have e4 : c1 * r1 = p := by rw [Int.mul_comm]; exact e1
              rw [e2] at p2
              rw [e3] at p3
              have hz4 : (Ly.mk 3 [y1, y2, y3]).needs r1 c1 = ⟨p6, 5, 3 * p + p6 + p + 2 * p6 + r1, 3 * (p + p7 + p) + (p + p + p6) + (p6 + p + p) + 4 * p6 + r1⟩ := by simp only [Ly.needs, e1, e2, e3, e4]
              have had : a = r1 ∧ d' = c1 := by
                simp only [Ly.sides] at hs
                split at hs
                · injection hs with hs
                  injection hs with h1 h2
                  exact ⟨h1.symm, h2.symm⟩
                · cases hs
              obtain ⟨rfl, rfl⟩ := had
              obtain ⟨u, rfl, hu⟩ := hif
              have HU := Lib.hid hu
              obtain ⟨Au, cu, rfl, _⟩ := hu
              simp only [List.length_cons, List.length_nil, Nat.zero_add, Nat.reduceAdd] at HU hcell
              have HE := Lib.hid (And.intro e1 (And.intro e2 e3))
              have HRC := Lib.hid (And.intro hr1 hc1)
              have hm1' := m_needsMix Au 3 cu
              have hm2' := m_sidesMix Au 3 cu
              have hbd := Ly.needs_bd hok hr1 hc1
              rw [hz4] at hsum hbd
              simp only [Need.within] at hbd
              obtain ⟨⟨bt1, bt2⟩, ⟨bm1, bm2⟩, ⟨bb1, bb2⟩, bo1, bo2⟩ := hbd
              obtain ⟨⟨ht1, ht2⟩, ⟨hm1, hm2⟩, ⟨hb1, hb2⟩, ho1, ho2⟩ := And.intro ht (And.intro hm (And.intro hb ho))
              have HSUM := Lib.hid hsum
              clear hsum hok hs hsd ht hm hb ho hl hx e1 e2 e3 e4
              go_wp2
              have HL0 := HL; have F0 := F; refine wp_region_tree (S := fun w' => St w0 w' L) (qcs 0 4 (.act 4 (.act 5 (.act 6 .fin .stop) .stop) .stop)) (by kernel_rfl) (by kernel_rfl) (by kernel_rfl) (by intro c a d v w h; cases d <;> exact h) ?_; dsimp only [qcs, Nat.reduceAdd]; replace S := S.drew
              repeat (first | refine qCa ?_ | refine qAn ?_ | refine qSk ?_ | (refine tree_act rfl rfl ?_ tree_stop; intro K hK; (refine qsw HL S 0 ?_; clear F S HL; intro w L HL S F); (refine qKo hK ?_; clear hK K)) | (refine tree_act rfl rfl ?_ tree_stop; intro K hK; go_wp2_with (first | (go_at_call 227; refine qGr S (C_needsMix _ _ _ _ p p6 p7 _ (by exact HRC.out.1) (by exact HRC.out.2) (by exact HE.out.1) (by exact HE.out.2.1) (by exact HE.out.2.2)) ?_; clear S; intro w S) | (go_at_call 86; refine qGr S (C_AddLow _ _ _ _ _ _ _ _ _ ⟨by omega, by omega⟩ ⟨by omega, by omega⟩ ⟨by omega, by omega⟩ ⟨by omega, by omega⟩ ⟨by omega, by omega⟩ ⟨by omega, by omega⟩ ⟨by omega, by omega⟩ ⟨by omega, by omega⟩) ?_; clear S; intro w S)); (refine qKo hK ?_; clear hK K)))
              refine tree_fin ?_
              clear HL0 F0 hcell
              go_wp2_with (first | (go_at_call 229; refine qGr S (C_sidesMix _ y1 [y2, y3] _ _ _ (HU.out.at_ S)) ?_; clear S; intro w S))
              go_roundw
              case rel =>
                refine ⟨j + 1, a, d', t + p6, m + 5, b + (3 * p + p6 + p + 2 * p6 + a), o + (3 * (p + p7 + p) + (p + p + p6) + (p6 + p + p) + 4 * p6 + a), L, by omega, by go_num, rfl, rfl, Lib.hid ⟨HAD.out.1, HAD.out.2, HREST.out, ?_⟩, by omega, by omega, by omega, by omega, (by first | exact HL | simpa using HL), S⟩
                rw [← HSUM.out]
                simp only [Need.add, Need.mk.injEq]
                omega
              case measure => simp [intOf]; omega
      · obtain rfl : j = n := by omega
        rw [List.drop_of_length_le (Nat.le_of_eq HN.out)] at hsum
        have e : Need.mk t m b o = y := by rw [← hsum]; simp [needsFrom, Need.add, Need.zero]
        subst e
        clear hsum hsd
        go_wp2_with (first | (refine qst HL S 0 ?_; clear F S HL; intro w L HL S F) | (refine qst HL S 1 ?_; clear F S HL; intro w L HL S F) | (refine qst HL S 2 ?_; clear F S HL; intro w L HL S F))
        ((try simp only [Exit.inBlock, Exit.then]); refine ret1 rfl (resCell S HL 2 rfl rfl (by kernel_rfl)) rfl ?_)
        exact ⟨rfl, S.below⟩
end
end Go.Proofs.YtjgfjfjboimgdaaGreat
