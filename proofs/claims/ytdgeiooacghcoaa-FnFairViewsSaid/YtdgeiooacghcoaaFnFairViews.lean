/-
  Proved here: fair lists have ones.
-/
import Derived.Test.YtdgeiooacghcoaaHead
import Derived.Test.YtdgeiooacghcoaaDrawF
import Derived.Test.YtdgeiooacghcoaaSame
import Derived.Test.YtdgeiooacghcoaaBytes
namespace Go.Proofs.Ytdgeiooacghcoaa
set_option linter.unusedSimpArgs false
set_option linter.unusedVariables false
set_option linter.unusedSectionVars false
open Go Go.RowKit Go.ChangeShapes Go.WideShapes Go.ChangeAt
theorem fair_more {xs : List Int} (h : fair xs = true) : fair (xs ++ [1]) = false := by
  simp only [fair, Bool.and_eq_true, decide_eq_true_eq] at h
  have : ¬ (xs ++ [1]).length = 4096 := by rw [List.length_append, h.1]; simp
  simp [fair] at this ⊢
  omega
theorem fair_nil : fair [] = false := by simp [fair]
theorem size1 : ∀ {l : List Value}, l.length = 1 → ∃ a, l = [a]
  | [a], _ => ⟨a, rfl⟩
theorem fill1 (C : Array Value) (hC : C.size = 1) (z : Int) : Instr.fill (fun i => some (i * 1, 1)) C [(0, .int .i64 z)] = some #[.int .i64 z] := by
  obtain ⟨l⟩ := C
  obtain ⟨x0, rfl⟩ := size1 (by simpa using hC)
  simp [Instr.fill, Value.cells]
section
variable {P : Program} {w0 w : World} {a : Act} {L : List Ent} {o : Oper} {K : Act → World → Prop} {Q : Exit → Act → World → Prop}
theorem wp_empty (S : St w0 w L) (t : TypeId) (ho : o.op = .buildSlice t 0 #[])
    (e : TypeId) (ht : P.underlying t = some (.slice e)) {z : Option Value} {size bytes : Nat} (hi : (P.info? e).map (fun i => (i.zero, i.size, i.bytes)) = some (z, size, bytes))
    (h : ∀ g w' M, M = .row e size (.slice (some ⟨g, 0, none⟩) 0 0) 0 [] :: L → St w0 w' M → K (a.put o.dst (.slice (some ⟨g, 0, none⟩) 0 0)) w') : o.wp P a w K Q := by
  unfold Oper.wp
  simp only [execOp, ho, Sem.run_bind, Array.map_empty, run_empty ht hi w, Result.andThen_ok, Sem.run_pure]
  exact h _ _ _ rfl ((S.new e []).asRow (p := 0) rfl (by simp) (by simp [maxLen]))
theorem wp_one (S : St w0 w L) (t : TypeId) (z1 : Int) (ho : o.op = .buildSlice t 1 #[(0, .const (.int .i64 z1))])
    (e : TypeId) (ht : P.underlying t = some (.slice e)) {z : Value} {bytes : Nat} (hi : (P.info? e).map (fun i => (i.zero, i.size, i.bytes)) = some (some z, 1, bytes))
    (h : ∀ g w' M, M = .box g e [.int .i64 z1] :: L → St w0 w' M → K (a.put o.dst (.slice (some ⟨g, 0, none⟩) 1 1)) w') : o.wp P a w K Q := by
  obtain ⟨i, hi0, hz0, hz1, hz2⟩ := info_parts hi
  refine Go.wp_buildSlice t e 1 _ ho #[.int .i64 z1] i z ht hi0 hz0 (by rw [hz1]; omega) (by rw [hz1]; omega) (by rw [hz1, Array.toList_map]; exact fill1 _ (by simp) z1) (h _ _ _ rfl (S.new e _))
end
theorem ints_one1 (xs : List Int) : ints xs ++ [.int .i64 1] = ints (xs ++ [1]) := by simp [ints]
set_option maxHeartbeats 8000000 in
set_option maxRecDepth 20000 in
theorem L_FnFairViews (v : Value) (wA : World) (h : Bytes wA v) : Calls Try.prog 3 #[v] wA fun e w' => e = .returned (.bool true) ∧ Below wA.heap.size wA w' := by
  have HB0 := Lib.hid h
  obtain ⟨A, n, cap, rfl, hcap, hmax, _⟩ := h
  unfold maxLen at hmax
  by_cases hbig : n > 1048576
  · obtain ⟨L, HL, S⟩ := st_start wA; have F : True := trivial
    go_enter Try.func3, Try.ntmps3
    go_wp2_with (first | (refine wpList_box rfl S _ _ rfl ?_; intro g w L hM T; clear F S; (try rw [HL.out] at hM); clear HL; (try simp [Act.put, Act.eval, Value.cells, splice] at hM); have HL := Lib.hid hM; clear hM; have S := T; clear T; have F := factsAll HL S; (try simp only [factsOf, cellsFrom, and_true, true_and, Nat.reduceAdd] at F))  | (refine wpList_store_box rfl S _ _ _ rfl 0 _ _ _ _ (atOf HL rfl) rfl _ rfl (by kernel_rfl) rfl rfl ?_; intro w L hM T; clear F S; (try rw [HL.out] at hM); clear HL; (try simp [Act.put, Act.eval, Value.cells, splice] at hM); have HL := Lib.hid hM; clear hM; have S := T; clear T; have F := factsAll HL S; (try simp only [factsOf, cellsFrom, and_true, true_and, Nat.reduceAdd] at F)) | (refine wpList_store_box rfl S _ _ _ rfl 1 _ _ _ _ (atOf HL rfl) rfl _ rfl (by kernel_rfl) rfl rfl ?_; intro w L hM T; clear F S; (try rw [HL.out] at hM); clear HL; (try simp [Act.put, Act.eval, Value.cells, splice] at hM); have HL := Lib.hid hM; clear hM; have S := T; clear T; have F := factsAll HL S; (try simp only [factsOf, cellsFrom, and_true, true_and, Nat.reduceAdd] at F)) | (refine wpList_store_box rfl S _ _ _ rfl 2 _ _ _ _ (atOf HL rfl) rfl _ rfl (by kernel_rfl) rfl rfl ?_; intro w L hM T; clear F S; (try rw [HL.out] at hM); clear HL; (try simp [Act.put, Act.eval, Value.cells, splice] at hM); have HL := Lib.hid hM; clear hM; have S := T; clear T; have F := factsAll HL S; (try simp only [factsOf, cellsFrom, and_true, true_and, Nat.reduceAdd] at F)) | (refine wpList_store_box rfl S _ _ _ rfl 3 _ _ _ _ (atOf HL rfl) rfl _ rfl (by kernel_rfl) rfl rfl ?_; intro w L hM T; clear F S; (try rw [HL.out] at hM); clear HL; (try simp [Act.put, Act.eval, Value.cells, splice] at hM); have HL := Lib.hid hM; clear hM; have S := T; clear T; have F := factsAll HL S; (try simp only [factsOf, cellsFrom, and_true, true_and, Nat.reduceAdd] at F))  )
    go_ret
    exact ⟨rfl, S.below⟩
  obtain ⟨L, HL, S⟩ := st_start wA; have F : True := trivial
  go_enter Try.func3, Try.ntmps3
  go_upto_region 4 with (first | (go_at_call 18; refine (C_DrawFairViews _ _ (HB0.out.below S.below)).mono ?_; rintro e w0 ⟨xs, ⟨u, rfl, m, hm, T0⟩, hlen⟩; obtain ⟨L, hM, T⟩ := st_name (S.call T0); clear T0; clear F S; (try rw [HL.out] at hM); clear HL; (try simp [Act.put, Act.eval, Value.cells, splice] at hM); have HL := Lib.hid hM; clear hM; have S := T; clear T; have F := factsAll HL S; (try simp only [factsOf, cellsFrom, and_true, true_and, Nat.reduceAdd] at F)))
  have HS := Lib.hid (Sees.row S (atOf HL (p := 0) rfl))
  have HE := Lib.hid S.below
  have hm2 : m ≤ 4097 := by omega
  have HX := Lib.hid hm
  clear F HL S HB0 hlen hm
  obtain ⟨_, A', cap', rfl, hcap', hmax', hA'⟩ := id HS.out
  unfold maxLen at hmax'
  have HA := Lib.hid hA'
  clear hA'
  obtain ⟨L, HL, S⟩ := st_start w0
  have F : True := trivial
  have seen : ∀ w : World, Ints w (.slice none 0 0) [] := fun w => ⟨by simp [ints], none, 0, rfl, Nat.le_refl _, by simp [maxLen], fun h => absurd h (by simp)⟩
  have CN := fun w v h => C_impl_FairViews v [] w h
  rw [fair_nil] at CN
  cases hf : fair xs with
  | false =>
    have CI := fun w v h => C_impl_FairViews v xs w h
    have CS := fun w v h => C_spec_FairViews v xs w h
    rw [hf] at CI CS
    go_upto_region 7 with (first | (go_at_call 19; refine (CI _ _ (by exact (HS.out.at_ S).ints)).mono ?_; rintro e w' ⟨rfl, rfl⟩) | (go_at_call 20; refine (CS _ _ (by exact (HS.out.at_ S).ints)).mono ?_; rintro e w' ⟨rfl, rfl⟩))
    clear CI CS hf HS HX HA
    go_wp2_with (first | (go_at_call 19; refine (CN _ _ (by exact seen _)).mono ?_; rintro e w' ⟨rfl, rfl⟩) | (go_at_call 21; refine (C_alive _).mono ?_; rintro e w' ⟨rfl, rfl⟩))
    go_ret
    exact ⟨rfl, HE.out.trans (S.below.mono HE.out.size)⟩
  | true =>
    have CI := fun w v h => C_impl_FairViews v xs w h
    have CS := fun w v h => C_spec_FairViews v xs w h
    have CM := fun w v h => C_impl_FairViews v (xs ++ [1]) w h
    rw [hf] at CI CS
    rw [fair_more hf] at CM
    go_upto_region 7 with (first | (go_at_call 19; refine (CI _ _ (by exact (HS.out.at_ S).ints)).mono ?_; rintro e w' ⟨rfl, rfl⟩) | (go_at_call 20; refine (CS _ _ (by exact (HS.out.at_ S).ints)).mono ?_; rintro e w' ⟨rfl, rfl⟩))
    have h0 : 0 < m := by
      simp only [fair, Bool.and_eq_true, decide_eq_true_eq] at hf
      have := HX.out
      omega
    obtain ⟨b, off, rfl, hb, hc⟩ := HA.out h0
    have HN := Lib.hid (fun (w : World) (B : Below w0.heap.size w0 w) => (fun j u hu => by
      have hadd : (⟨b, off, none⟩ : Addr).add j = ⟨b, off + j, none⟩ := by unfold Addr.add; split <;> simp_all
      rw [hadd]
      exact (B.cell (p := ⟨b, off + j, none⟩) hb).trans (hc j u hu) : ∀ j u, (ints xs)[j]? = some u → w.cell? ((⟨b, off, none⟩ : Addr).add j) = some u))
    clear hc hf
    go_wp2_with (first | (refine BigFrame.wpList_want (by rfl) ?_; intro K hK; refine wp_empty S _ rfl 3 Try.underlying23 infoInt ?_; intro g w L hM T; refine hK _ _ ?_; clear hK K; clear F S; (try rw [HL.out] at hM); clear HL; (try simp [Act.put, Act.eval, Value.cells, splice] at hM); have HL := Lib.hid hM; clear hM; have S := T; clear T; have F := factsAll HL S; (try simp only [factsOf, cellsFrom, and_true, true_and, Nat.reduceAdd] at F)) | (refine BigFrame.wpList_want (by rfl) ?_; intro K hK; refine wp_append S _ _ _ rfl 0 3 _ 1 8 Try.underlying23 infoInt rfl (by omega) _ 0 [] rfl (atOf HL rfl) ⟨b, off, none⟩ m _ (ints xs) rfl (by rw [ints_length, HX.out, Nat.mul_one]) (HN.out _ S.below) (ints_one _) (by simp only [maxLen]; omega) (by omega) ?_; intro v w L hM T; refine hK _ _ ?_; clear hK K; clear F S; (try rw [HL.out] at hM); clear HL; (try simp [Act.put, Act.eval, Value.cells, splice] at hM); have HL := Lib.hid hM; clear hM; have S := T; clear T; have F := factsAll HL S; (try simp only [factsOf, cellsFrom, and_true, true_and, Nat.reduceAdd] at F)) | (refine BigFrame.wpList_want (by rfl) ?_; intro K hK; refine wp_one S _ 1 rfl 3 Try.underlying23 infoInt ?_; intro g w L hM T; refine hK _ _ ?_; clear hK K; clear F S; (try rw [HL.out] at hM); clear HL; (try simp [Act.put, Act.eval, Value.cells, splice] at hM); have HL := Lib.hid hM; clear hM; have S := T; clear T; have F := factsAll HL S; (try simp only [factsOf, cellsFrom, and_true, true_and, Nat.reduceAdd] at F)) | (refine BigFrame.wpList_want (by rfl) ?_; intro K hK; refine wp_append_box S _ _ _ rfl 3 _ 1 8 Try.underlying23 infoInt rfl (by omega) 1 _ _ _ rfl (atOf HL rfl) (by omega) 0 _ _ _ _ _ rfl (atOf HL rfl) rfl rfl rfl rfl ?_; intro v w L hM T; refine hK _ _ ?_; clear hK K; clear F S; (try rw [HL.out] at hM); clear HL; (try simp [Act.put, Act.eval, Value.cells, splice] at hM); have HL := Lib.hid hM; clear hM; have S := T; clear T; have F := factsAll HL S; (try simp only [factsOf, cellsFrom, and_true, true_and, Nat.reduceAdd] at F)) | (go_at_call 19; refine (CM _ _ (by refine Sees.ints (n := m + 1) ?_; rw [← ints_one1]; exact Sees.row S (atOf HL (p := 1) rfl))).mono ?_; rintro e w' ⟨rfl, rfl⟩) | (go_at_call 19; refine (CN _ _ (by exact seen _)).mono ?_; rintro e w' ⟨rfl, rfl⟩) | (go_at_call 21; refine (C_alive _).mono ?_; rintro e w' ⟨rfl, rfl⟩))
    go_ret
    exact ⟨rfl, HE.out.trans (S.below.mono HE.out.size)⟩

set_option maxRecDepth 100000 in
theorem FnFairViews_lifted (os : Os) (started : os.Started) (H : Type) (enc : TypeId × Value → H) :
    ReturnsInHanded {} Try.checked os 3 .any (Rows.fnFairViewsSpec.pre6 enc Try.prog Try.f3 Rows.fnFairViewsRow.domain false) (Rows.fnFairViewsSpec.post enc Try.prog Try.f3 false true false false) := by
  refine returnsInHanded_of_change (C := Try.checked) Try.ownKnob_ started (by kernel_rfl) Try.func3
    (ChangeSpec.witness6 (enc := enc) (C := Try.checked) false ⟨#[], #[.slice none 0 0], []⟩ 8 (by kernel_rfl) (by kernel_rfl) (by kernel_rfl) (by kernel_rfl)) ?_
  intro W base args ds gs before hval0 hW _ _
  have hval : ∀ (j : Nat) t v, Try.f3.params[j]? = some t → args[j]? = some v → Value.okWide Try.prog W .any base t v := hval0
  have hW' := hW
  obtain ⟨p, q, hA0, hV, rfl, _, _⟩ := hW
  have hA : DataW.TrodAll enc Try.prog W 0 (fun _ => true) true Try.f3.params.toList args.toList ds p := hA0
  rw [Try.params3] at hA hval
  obtain ⟨v0, vs0, d0, ds0, p0, q0, hargs, rfl, rfl, h0, r0⟩ := trodAll_cons hA
  obtain ⟨rfl, rfl, rfl⟩ := trodAll_nil r0
  obtain rfl : args = #[v0] := by cases args; simp_all
  obtain ⟨rfl, rfl⟩ := trodVars_none hV
  clear hA0 hval0
  have s0 := open_bytes (e := 5) (by kernel_rfl) (hval 0 _ v0 rfl rfl) h0
  refine (L_FnFairViews _ W s0).mono fun e W' ⟨he, hb⟩ => ⟨_, he, ?_⟩
  exact law_post 4 Try.underlying4 Try.laidOut_ (by kernel_rfl) rfl rfl hW' ⟨rfl, rfl, rfl⟩ hb

theorem FnFairViews_holds : Rows.FnFairViewsSaid :=
  OpenClaim.holds_of_wide 3 Try.f3 rfl rfl rfl rfl rfl rfl rfl ⟨rfl, rfl, rfl, rfl, rfl⟩ rfl rfl rfl rfl rfl (by kernel_rfl) Try.func3 (closed_of (by kernel_rfl))
    (of_decide_eq_true (by kernel_rfl)) (by unfold Func.isWrapper; first | (rw [if_pos (by decide +kernel)]; kernel_rfl) | (rw [if_neg (by decide +kernel)]; exact ⟨rfl, rfl⟩))
    (fun os started H enc _ => FnFairViews_lifted os started H enc)

end Go.Proofs.Ytdgeiooacghcoaa
