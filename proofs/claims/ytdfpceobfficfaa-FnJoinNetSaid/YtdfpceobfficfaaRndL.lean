/-
  Contracts: the program's list of random ring numbers (a range over an iterator without end).
-/
import Derived.Test.YtdfpceobfficfaaBatR
import Derived.Test.YtdfpceobfficfaaRound
import Derived.RangeFuncNested
import Derived.RangeFuncBound
import Derived.RangeFuncCalls
import Derived.RangeFuncLeaves
import Derived.OwnWalkIn
import Derived.TacticsInMore
import Derived.LoopNIn
import Derived.LoopIn
namespace Go.Proofs.Ytdfpceobfficfaa
set_option linter.unusedSimpArgs false
set_option linter.unusedVariables false
set_option linter.unusedSectionVars false
open Go Go.RowKit
set_option maxHeartbeats 8000000
set_option maxRecDepth 20000
theorem seedOk_bd {s : Int} (h : seedOk s = true) : 1 ≤ s ∧ s ≤ 2147483646 := by simpa [seedOk] using h
theorem C_randomStream (s : Int) (w0 : World) : Calls Try.prog 128 #[.int .i64 s] w0 fun e w' => ∃ g, e = .returned (.func (.func 133) #[] #[.pointer (some ⟨g, 0, none⟩)]) ∧ St w0 w' [.box g 3 [.int .i64 s]] := by
  obtain ⟨L, HL, S⟩ := st_start w0; have F : True := trivial
  go_enter Try.func128, Try.ntmps128
  go_wp2_with (first | (refine wpList_box rfl S _ _ rfl ?_; intro g w L hM T; clear F S; (try rw [HL.out] at hM); clear HL; (try simp [Act.put, Act.eval, Value.cells, splice] at hM); have HL := Lib.hid hM; clear hM; have S := T; clear T; have F := factsAll HL S; (try simp only [factsOf, cellsFrom, and_true, true_and, Nat.reduceAdd] at F)))
  go_ret
  rw [HL.out] at S
  exact ⟨_, rfl, S⟩
/-- What the loop over the stream owns: its record, the list of deferred calls, the stream's seed, the last seed, the list, the number of rounds. -/
def rndEnts (l D gs g7 g6 g3 : Nat) (r : Loop) (sd : Int) (v : Value) (k many : Nat) (s : Int) : List Ent :=
  [.obj l (.loop r), .obj D (.deferred (some [])), .box gs 3 [.int .i64 sd], .box g7 3 [.int .i64 (seedAt s k)], .box g6 53 [v], .row 3 1 v k (ints (rndTo s k)), .box g3 3 [.int .i64 many]]
theorem seedAt_pos {s : Int} (h : 1 ≤ s ∧ s ≤ 2147483646) : ∀ k, 1 ≤ seedAt s k ∧ seedAt s k ≤ 2147483646
  | 0 => h
  | k + 1 => by
    have := seedAt_pos h k
    show 1 ≤ nextS (seedAt s k) ∧ nextS (seedAt s k) ≤ 2147483646
    unfold nextS
    omega
theorem C_stream (l D gs g7 g6 g3 many : Nat) (r : Loop) (s : Int) (hs : 1 ≤ s ∧ s ≤ 2147483646) (w0 W0 : World) (v0 : Value) (S0 : St w0 W0 (rndEnts l D gs g7 g6 g3 r s v0 0 many s))
    (hp : r.params.size = 2)
    (HR : ∀ k W v, k ≤ many → St w0 W (rndEnts l D gs g7 g6 g3 r (seedAt s k) v k many s) →
      RoundIn Fence.wide 0 Try.prog l r.fn ((r.params.zip #[.int .i64 (ro (seedAt s (k + 1) / 8)), .int .i64 (seedAt s (k + 1))]).foldl (fun tmps (t, a) => tmps.setIfInBounds t a) r.tmps) r.assign r.body W
        fun e W' => (k < many ∧ e = .returned (.bool true) ∧ ∃ v', St w0 W' (rndEnts l D gs g7 g6 g3 r (seedAt s k) v' (k + 1) many s)) ∨
          (k = many ∧ e = .returned (.bool false) ∧ St w0 W' (rndEnts l D gs g7 g6 g3 { r with state := .done, pending := some (.exit 0) } (seedAt s k) v k many s))) :
    CallsIn Fence.wide 1 Try.prog 133 #[.func (.yield l) #[] #[], .pointer (some ⟨gs, 0, none⟩)] W0 fun e W' => (∃ u, e = .returned u) ∧ ∃ v, St w0 W' (rndEnts l D gs g7 g6 g3 { r with state := .done, pending := some (.exit 0) } (seedAt s many) v many many s) := by
  refine callsIn_of_wp Try.func133 rfl trivial ?_ rfl
  simp only [Try.ntmps133, List.size_toArray, List.length_cons, List.length_nil, Nat.reduceAdd, Nat.reduceSub, Array.replicate_succ, Array.replicate_zero, List.push_toArray, List.append_toArray, List.nil_append, List.cons_append]
  refine wpIn_block ?_
  refine wpIn_loop_count (fun k a W => ∃ v t2 t3 t4 t5 t6 t7 t8 t9 t10 t11 t12 t13 t14 t15, a = { tmps := #[.func (.yield l) #[] #[], .pointer (some ⟨gs, 0, none⟩), t2, t3, t4, t5, t6, t7, t8, t9, t10, t11, t12, t13, t14, t15], defers := [] } ∧ St w0 W (rndEnts l D gs g7 g6 g3 r (seedAt s k) v k many s)) many ⟨v0, _, _, _, _, _, _, _, _, _, _, _, _, _, _, rfl, S0⟩ ?_
  rintro k a W hk ⟨v, t2, t3, t4, t5, t6, t7, t8, t9, t10, t11, t12, t13, t14, t15, rfl, S⟩
  have b0 := seedAt_pos hs k
  have CN := fun w => C_NextRandom (seedAt s k) w b0
  have HRK := HR k W v hk S
  have hl := S.objAt (p := 0) (g := l) (o := .loop r) rfl
  have hy1 := run_yield (P := Try.prog) (args := #[.int .i64 (ro (seedAt s (k + 1) / 8)), .int .i64 (seedAt s (k + 1))]) hl hp.symm
  obtain ⟨L, HL⟩ : ∃ L, Hid (L = rndEnts l D gs g7 g6 g3 r (seedAt s k) v k many s) := ⟨_, Lib.hid rfl⟩
  rw [← HL.out] at S
  have F := factsAll HL S
  (try simp only [rndEnts, factsOf, cellsFrom, and_true, true_and, Nat.reduceAdd] at F)
  rw [show nextS (seedAt s k) = seedAt s (k + 1) from rfl] at CN
  generalize ro (seedAt s (k + 1) / 8) = x at CN HRK hy1
  generalize (r.params.zip #[Value.int .i64 x, Value.int .i64 (seedAt s (k + 1))]).foldl (fun tmps x => tmps.setIfInBounds x.fst x.snd) r.tmps = tm at HRK hy1
  refine wpIn_block ?_
  refine wpIn_seq (wpIn_wide.2 ?_)
  go_wp2_with (first | (go_at_call 134; refine (CN _).mono ?_; rintro e w' ⟨rfl, rfl⟩))
  clear F CN hl HR S0 hs b0
  refine wpIn_seq (wpIn_mono (Q := fun e a W' => (e = .normal ∧ k < many ∧ a.defers = [] ∧ (∃ v' t2 t5 t6 t7 t8 t9 t10 t11 t12 t13 t14 t15, a.tmps = #[.func (.yield l) #[] #[], .pointer (some ⟨gs, 0, none⟩), t2, .int .i64 x, .int .i64 (seedAt s (k + 1)), t5, t6, t7, t8, t9, t10, t11, t12, t13, t14, t15] ∧ St w0 W' (rndEnts l D gs g7 g6 g3 r (seedAt s k) v' (k + 1) many s))) ∨ (e = .ret ∧ k = many ∧ a.defers = [] ∧ St w0 W' (rndEnts l D gs g7 g6 g3 { r with state := .done, pending := some (.exit 0) } (seedAt s k) v k many s))) ?_ ?_)
  · refine wpIn_seq ?_
    gi_wp2
    refine HRK.mono ?_
    rintro e W' (⟨hk', rfl, v', S'⟩ | ⟨rfl, rfl, S'⟩)
    · clear HRK hy1 S HL
      gi_wp2
      first | exact ⟨v', S'⟩ | exact .inl ⟨rfl, hk', rfl, v', _, _, _, _, _, _, _, _, _, _, _, _, rfl, S'⟩
    · clear HRK hy1 S HL
      gi_wp2
      all_goals exact .inr ⟨rfl, rfl, rfl, S'⟩
  · clear HRK hy1 S HL
    rintro e ⟨tm2, df⟩ W' (⟨rfl, hk', hd, v', t2, t5, t6, t7, t8, t9, t10, t11, t12, t13, t14, t15, htm, S⟩ | ⟨rfl, rfl, hd, S⟩)
    · dsimp only at hd htm
      subst hd htm
      refine wpIn_wide.2 ?_
      obtain ⟨L, HL⟩ : ∃ L, Hid (L = rndEnts l D gs g7 g6 g3 r (seedAt s k) v' (k + 1) many s) := ⟨_, Lib.hid rfl⟩
      rw [← HL.out] at S
      have F := factsAll HL S
      simp only [rndEnts] at HL
      simp only [rndEnts, factsOf, cellsFrom, and_true, true_and, Nat.reduceAdd] at F
      go_wp2_with (first | (refine wpList_store_box rfl S _ _ _ rfl 2 _ _ _ _ (atOf HL rfl) rfl _ rfl (by kernel_rfl) rfl rfl ?_; intro w L hM T; clear F S; (try rw [HL.out] at hM); clear HL; (try simp [Act.put, Act.eval, Value.cells, splice] at hM); have HL := Lib.hid hM; clear hM; have S := T; clear T; have F := factsAll HL S; (try simp only [factsOf, cellsFrom, and_true, true_and, Nat.reduceAdd] at F)))
      rw [HL.out] at S
      exact ⟨hk', v', _, _, _, _, _, _, _, _, _, _, _, _, _, _, rfl, S⟩
    · simp only [Exit.inBlock, Exit.then]
      refine bodyPost_ret (results_none rfl _ _ _) hd ?_
      exact ⟨⟨_, rfl⟩, _, S⟩
theorem zInts : (Try.prog.info? 53).bind (·.zero) = some (.slice none 0 0) := by kernel_rfl
theorem C_RandomList (s : Int) (many : Nat) (w0 : World) (hs : seedOk s = true) (hm : many ≤ 4096) : Calls Try.prog 111 #[.int .i64 s, .int .i64 many] w0 (MakesRnd w0 s many) := by
  have hs' := seedOk_bd hs
  have CV := fun w => C_seedValid s w
  rw [hs] at CV
  have CR := fun w => C_randomStream s w
  unfold MakesRnd
  clear hs
  obtain ⟨L, HL, S⟩ := st_start w0; have F : True := trivial
  refine (callsIn_wide (n := 2)).1 (callsIn_of_wp_marks Try.func111 rfl trivial (wpIn_wide.2 ?_))
  simp only [Try.ntmps111, List.size_toArray, List.length_cons, List.length_nil, Nat.reduceAdd, Nat.reduceSub, Array.replicate_succ, Array.replicate_zero, List.push_toArray, List.append_toArray, List.nil_append, List.cons_append]
  go_wp2_with (first | (refine wpList_box rfl S _ _ rfl ?_; intro g3 w L hM T; clear F S; (try rw [HL.out] at hM); clear HL; (try simp [Act.put, Act.eval, Value.cells, splice] at hM); have HL := Lib.hid hM; clear hM; have S := T; clear T; have F := factsAll HL S; (try simp only [factsOf, cellsFrom, and_true, true_and, Nat.reduceAdd] at F)) | (at_make; refine wpList_make0 rfl S _ _ _ rfl 3 _ 1 8 Try.underlying53 infoInt .i64 .i64 _ many rfl rfl rfl (by omega) (by simp only [maxLen]; omega) ?_; intro g w L hM T; clear F S; (try rw [HL.out] at hM); clear HL; (try simp [Act.put, Act.eval, Value.cells, splice] at hM); have HL := Lib.hid hM; clear hM; have S := T; clear T; have F := factsAll HL S; (try simp only [factsOf, cellsFrom, and_true, true_and, Nat.reduceAdd] at F)) | (refine wpList_alloc rfl S 3 _ rfl zInt ?_; intro g7 w L hM T; clear F S; (try rw [HL.out] at hM); clear HL; (try simp [Act.put, Act.eval, Value.cells, splice] at hM); have HL := Lib.hid hM; clear hM; have S := T; clear T; have F := factsAll HL S; (try simp only [factsOf, cellsFrom, and_true, true_and, Nat.reduceAdd] at F)) | (refine wpList_alloc rfl S 53 _ rfl zInts ?_; intro g6 w L hM T; clear F S; (try rw [HL.out] at hM); clear HL; (try simp [Act.put, Act.eval, Value.cells, splice] at hM); have HL := Lib.hid hM; clear hM; have S := T; clear T; have F := factsAll HL S; (try simp only [factsOf, cellsFrom, and_true, true_and, Nat.reduceAdd] at F)) | (refine wpList_store_box rfl S _ _ _ rfl 0 _ _ _ _ (atOf HL rfl) rfl _ rfl (by kernel_rfl) rfl rfl ?_; intro w L hM T; clear F S; (try rw [HL.out] at hM); clear HL; (try simp [Act.put, Act.eval, Value.cells, splice] at hM); have HL := Lib.hid hM; clear hM; have S := T; clear T; have F := factsAll HL S; (try simp only [factsOf, cellsFrom, and_true, true_and, Nat.reduceAdd] at F)) | (refine wpList_store_box rfl S _ _ _ rfl 1 _ _ _ _ (atOf HL rfl) rfl _ rfl (by kernel_rfl) rfl rfl ?_; intro w L hM T; clear F S; (try rw [HL.out] at hM); clear HL; (try simp [Act.put, Act.eval, Value.cells, splice] at hM); have HL := Lib.hid hM; clear hM; have S := T; clear T; have F := factsAll HL S; (try simp only [factsOf, cellsFrom, and_true, true_and, Nat.reduceAdd] at F)) | (refine wpList_store_box rfl S _ _ _ rfl 2 _ _ _ _ (atOf HL rfl) rfl _ rfl (by kernel_rfl) rfl rfl ?_; intro w L hM T; clear F S; (try rw [HL.out] at hM); clear HL; (try simp [Act.put, Act.eval, Value.cells, splice] at hM); have HL := Lib.hid hM; clear hM; have S := T; clear T; have F := factsAll HL S; (try simp only [factsOf, cellsFrom, and_true, true_and, Nat.reduceAdd] at F)) | (go_at_call 45; refine (CV _).mono ?_; rintro e w' ⟨rfl, rfl⟩) | (go_at_call 128; refine (CR _).mono ?_; rintro e w ⟨gs, rfl, T0⟩; obtain ⟨L, hM, T⟩ := st_name (S.call T0); clear T0; clear F S; (try rw [HL.out] at hM); clear HL; (try simp [Act.put, Act.eval, Value.cells, splice] at hM); have HL := Lib.hid hM; clear hM; have S := T; clear T; have F := factsAll HL S; (try simp only [factsOf, cellsFrom, and_true, true_and, Nat.reduceAdd] at F)))
  rename_i K0 hK0
  rw [HL.out] at S
  refine wp_rangeFunc_out S 133 #[.pointer (some ⟨gs, 0, none⟩)] rfl (by intro W l; simp [invoke, go_sem] <;> rfl) ?_
  intro fn W1 S1
  refine (C_stream _ _ gs g7 g6 g3 many _ s hs' w0 W1 _ S1 rfl ?_).mono ?_
  · clear S1 F HL CV CR S
    intro k W v hk S
    have HSd := Lib.hid (show seedAt s (k + 1) = seedAt s (k + 1) from rfl)
    have HRt := Lib.hid (show rndTo s (k + 1) = rndTo s k ++ [ro (seedAt s (k + 1) / 8)] from rfl)
    generalize hx : ro (seedAt s (k + 1) / 8) = x at HRt
    generalize hy : seedAt s (k + 1) = y
    have HY := Lib.hid hy
    clear hx hy
    refine roundIn_of_wpIn trivial ?_
    dsimp only
    rw [fold_two]
    simp only [List.setIfInBounds_toArray, List.set_cons_zero, List.set_cons_succ]
    refine wpIn_seq (wpIn_region_plain (by rfl) (fun ⟨_, _, h⟩ => h) ?_)
    go_wp2
    refine wpIn_region_plain (by rfl) (fun ⟨_, _, h⟩ => h) ?_
    go_wp2
    refine round_start S rfl ?_
    clear S
    intro W2 ob HOB S
    obtain ⟨_, A, cap, rfl, hcap, hmax, _⟩ := Sees.row S (atOf (p := 5) (show Hid (_ = _) from rfl) rfl)
    obtain ⟨L, hM, T⟩ := st_name S; clear S; have S := T; clear T; have HL := Lib.hid hM; clear hM; have F := factsAll HL S; (try simp only [factsOf, cellsFrom, and_true, true_and, Nat.reduceAdd] at F)
    refine wpIn_block ?_
    refine wpIn_seq (wpIn_seq (wpIn_region_plain (by rfl) (fun ⟨_, _, h⟩ => h) ?_))
    by_cases hlt : k < many
    · have hne : ((k : Int) == (many : Int)) = false := by rw [beq_eq_false_iff_ne]; omega
      go_wp2
      refine wpIn_cond_false rfl (wpIn_skip ?_)
      refine wpIn_seq (wpIn_region_plain (by rfl) (fun ⟨_, _, h⟩ => h) ?_)
      go_wp2_with (first | (refine wpList_lit rfl S _ _ _ rfl 3 Try.underlying53 infoInt (by simp [Act.eval]) (by simp [Act.eval, Value.oneCell']) rfl rfl rfl ?_; intro g w L hM T; clear F S; (try rw [HL.out] at hM); clear HL; (try simp [Act.put, Act.eval, Value.cells, splice] at hM); have HL := Lib.hid hM; clear hM; have S := T; clear T; have F := factsAll HL S; (try simp only [factsOf, cellsFrom, and_true, true_and, Nat.reduceAdd] at F)) | ((refine wpList_append_box rfl S _ _ _ rfl 3 _ 1 8 Try.underlying53 infoInt rfl (by omega) _ _ _ _ rfl (by first | exact atOf HL (p := 0) rfl | exact atOf HL (p := 1) rfl | exact atOf HL (p := 2) rfl | exact atOf HL (p := 3) rfl | exact atOf HL (p := 4) rfl | exact atOf HL (p := 5) rfl | exact atOf HL (p := 6) rfl | exact atOf HL (p := 7) rfl) (by omega) _ _ _ _ _ _ rfl (by first | exact atOf HL (p := 0) rfl | exact atOf HL (p := 1) rfl | exact atOf HL (p := 2) rfl | exact atOf HL (p := 3) rfl | exact atOf HL (p := 4) rfl | exact atOf HL (p := 5) rfl | exact atOf HL (p := 6) rfl | exact atOf HL (p := 7) rfl) rfl rfl rfl rfl ?_; intro u w L hM T; clear F S; (try rw [HL.out] at hM); clear HL; (try simp [Act.put, Act.eval, Value.cells, splice] at hM); have HL := Lib.hid hM; clear hM; have S := T; clear T; have F := factsAll HL S; (try simp only [factsOf, cellsFrom, and_true, true_and, Nat.reduceAdd] at F)); obtain ⟨_, A', cap', rfl, hcap', hmax', _⟩ := Sees.row S (atOf HL (p := 6) rfl)) | (refine wpList_store_box rfl S _ _ _ rfl 5 _ _ _ _ (atOf HL rfl) rfl _ rfl (by kernel_rfl) rfl rfl ?_; intro w L hM T; clear F S; (try rw [HL.out] at hM); clear HL; (try simp [Act.put, Act.eval, Value.cells, splice] at hM); have HL := Lib.hid hM; clear hM; have S := T; clear T; have F := factsAll HL S; (try simp only [factsOf, cellsFrom, and_true, true_and, Nat.reduceAdd] at F)))
      refine wpIn_region_plain (by rfl) (fun ⟨_, _, h⟩ => h) ?_
      go_wp2_with (first | (refine wpList_store_box rfl S _ _ _ rfl 4 _ _ _ _ (atOf HL rfl) rfl _ rfl (by kernel_rfl) rfl rfl ?_; intro w L hM T; clear F S; (try rw [HL.out] at hM); clear HL; (try simp [Act.put, Act.eval, Value.cells, splice] at hM); have HL := Lib.hid hM; clear hM; have S := T; clear T; have F := factsAll HL S; (try simp only [factsOf, cellsFrom, and_true, true_and, Nat.reduceAdd] at F)))
      rw [HL.out] at S
      have T := S.sub (.cons _ (.refl _))
      refine round_end HOB none T ?_
      intro W3 S3
      have e : ints (rndTo s (k + 1)) = ints (rndTo s k) ++ [.int .i64 x] := by rw [HRt.out]; simp [ints]
      rw [← e, ← HY.out] at S3
      first | exact .inl ⟨rfl, _, S3⟩ | exact .inl ⟨hlt, rfl, _, S3⟩ | exact ⟨rfl, _, S3⟩
    · obtain rfl : k = many := by omega
      go_wp2
      refine wpIn_cond_true rfl (wpIn_exit ?_)
      rw [HL.out] at S
      refine round_end HOB (some (.exit 0)) S ?_
      intro W3 S3
      first | exact .inr ⟨rfl, rfl, S3⟩ | exact ⟨rfl, S3⟩ | exact .inr ⟨rfl, S3⟩ | exact S3
  · rintro e W2 ⟨⟨u, rfl⟩, v, S2⟩
    clear S F HL S1
    refine loop_end S2 (by simp) ?_
    clear S2
    intro W3 S
    dsimp only
    refine wpIn_exit ?_
    simp only [Exit.inBlock, Exit.then, if_true]
    refine hK0 _ _ ?_
    clear hK0
    replace S := S.sub (.cons _ (.refl _))
    obtain ⟨_, A, cap, rfl, hcap, hmax, _⟩ := Sees.row S (atOf (p := 4) (show Hid (_ = _) from rfl) rfl)
    obtain ⟨L, hM, T⟩ := st_name S; clear S; have S := T; clear T; have HL := Lib.hid hM; clear hM; have F := factsAll HL S; (try simp only [factsOf, cellsFrom, and_true, true_and, Nat.reduceAdd] at F)
    have F1 := F _ S
    refine wp_seq ?_
    go_quiet (fail)
    replace S := S.drewN nq
    clear F1
    show Code.wp _ _ _ _ _
    refine wp_ret ?_
    rw [HL.out] at S
    obtain ⟨W4, hm4, S4⟩ := mark_end (P := Try.prog) (C := fun W4 => St w0 W4 [.row 3 1 (.slice A many cap) many (ints (rndTo s many))]) S (fun W4 S4 => S4.sub (by repeat (first | exact .refl _ | exact List.nil_sublist _ | apply List.Sublist.cons_cons | apply List.Sublist.cons)))
    refine ⟨by simp, .inl ⟨_, _, rfl, hm4, ?_⟩⟩
    refine ⟨.tuple #[.slice A many cap, .int .i64 (seedAt s many)], ?_, _, rfl, S4⟩
    simp [results, Try.f111, go_sem]
end Go.Proofs.Ytdfpceobfficfaa
