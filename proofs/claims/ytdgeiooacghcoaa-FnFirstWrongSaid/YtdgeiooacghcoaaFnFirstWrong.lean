/-
  Proved here: wrong numbers are found.
-/
import Derived.Test.YtdgeiooacghcoaaHead
import Derived.Test.YtdgeiooacghcoaaDrawB
import Derived.Test.YtdgeiooacghcoaaFirst
import Derived.Test.YtdgeiooacghcoaaSame
import Derived.Test.YtdgeiooacghcoaaBytes
namespace Go.Proofs.Ytdgeiooacghcoaa
set_option linter.unusedSimpArgs false
set_option linter.unusedVariables false
set_option linter.unusedSectionVars false
open Go Go.RowKit Go.ChangeShapes Go.WideShapes Go.ChangeAt
theorem first_cases {n : Nat} {zs : List Int} {key : Int} (hn : n ≤ 20) (hk : keyOk key = true) :
    ∃ p, p ≤ n ∧ (∀ j, j < p → openOk (ckAt zs j) key = true) ∧ (p < n → firstW n zs key = p ∧ openOk (ckAt zs p) key = false) ∧ (p = n → firstW n zs key = -1) := by
  cases h : (List.range n).find? (fun k => !openOk (ckAt zs k) key) with
  | none =>
    rw [List.find?_eq_none] at h
    refine ⟨n, Nat.le_refl _, fun j hj => ?_, fun h0 => absurd h0 (Nat.lt_irrefl _), fun _ => firstW_none hn hk fun j hj => ?_⟩
    · simpa using h j (List.mem_range.2 hj)
    · simpa using h j (List.mem_range.2 hj)
  | some p =>
    rw [List.find?_range_eq_some] at h
    obtain ⟨h1, h2, h3⟩ := h
    have hp := List.mem_range.1 h2
    have hb : openOk (ckAt zs p) key = false := by simpa using h1
    have ha : ∀ j, j < p → openOk (ckAt zs j) key = true := fun j hj => by simpa using h3 j hj
    exact ⟨p, by omega, ha, fun _ => ⟨firstW_bad hn hk hp ha hb, hb⟩, fun h0 => by omega⟩
set_option maxHeartbeats 8000000 in
set_option maxRecDepth 20000 in
theorem L_FnFirstWrong (v : Value) (w0 : World) (h : Bytes w0 v) : Calls Try.prog 13 #[v] w0 fun e w' => e = .returned (.bool true) ∧ Below w0.heap.size w0 w' := by
  have HB0 := Lib.hid h
  obtain ⟨A, n, cap, rfl, hcap, hmax, _⟩ := h
  unfold maxLen at hmax
  by_cases hbig : n > 1048576
  · obtain ⟨L, HL, S⟩ := st_start w0; have F : True := trivial
    go_enter Try.func13, Try.ntmps13
    go_wp2_with (first | (refine wpList_box rfl S _ _ rfl ?_; intro g w L hM T; clear F S; (try rw [HL.out] at hM); clear HL; (try simp [Act.put, Act.eval, Value.cells, splice] at hM); have HL := Lib.hid hM; clear hM; have S := T; clear T; have F := factsAll HL S; (try simp only [factsOf, cellsFrom, and_true, true_and, Nat.reduceAdd] at F))  | (refine wpList_store_box rfl S _ _ _ rfl 0 _ _ _ _ (atOf HL rfl) rfl _ rfl (by kernel_rfl) rfl rfl ?_; intro w L hM T; clear F S; (try rw [HL.out] at hM); clear HL; (try simp [Act.put, Act.eval, Value.cells, splice] at hM); have HL := Lib.hid hM; clear hM; have S := T; clear T; have F := factsAll HL S; (try simp only [factsOf, cellsFrom, and_true, true_and, Nat.reduceAdd] at F)) | (refine wpList_store_box rfl S _ _ _ rfl 1 _ _ _ _ (atOf HL rfl) rfl _ rfl (by kernel_rfl) rfl rfl ?_; intro w L hM T; clear F S; (try rw [HL.out] at hM); clear HL; (try simp [Act.put, Act.eval, Value.cells, splice] at hM); have HL := Lib.hid hM; clear hM; have S := T; clear T; have F := factsAll HL S; (try simp only [factsOf, cellsFrom, and_true, true_and, Nat.reduceAdd] at F)) | (refine wpList_store_box rfl S _ _ _ rfl 2 _ _ _ _ (atOf HL rfl) rfl _ rfl (by kernel_rfl) rfl rfl ?_; intro w L hM T; clear F S; (try rw [HL.out] at hM); clear HL; (try simp [Act.put, Act.eval, Value.cells, splice] at hM); have HL := Lib.hid hM; clear hM; have S := T; clear T; have F := factsAll HL S; (try simp only [factsOf, cellsFrom, and_true, true_and, Nat.reduceAdd] at F)) | (refine wpList_store_box rfl S _ _ _ rfl 3 _ _ _ _ (atOf HL rfl) rfl _ rfl (by kernel_rfl) rfl rfl ?_; intro w L hM T; clear F S; (try rw [HL.out] at hM); clear HL; (try simp [Act.put, Act.eval, Value.cells, splice] at hM); have HL := Lib.hid hM; clear hM; have S := T; clear T; have F := factsAll HL S; (try simp only [factsOf, cellsFrom, and_true, true_and, Nat.reduceAdd] at F))  )
    go_ret
    exact ⟨rfl, S.below⟩
  obtain ⟨L, HL, S⟩ := st_start w0; have F : True := trivial
  go_enter Try.func13, Try.ntmps13
  go_upto_region 4 with (first | (go_at_call 59; refine (C_DrawFirstWrong _ _ (HB0.out.below S.below)).mono ?_; rintro e w2 ⟨u, m, zs, key, rfl, hz, hm, hkey, T0⟩; obtain ⟨L, hM, T⟩ := st_name (S.call T0); clear T0; clear F S; (try rw [HL.out] at hM); clear HL; (try simp [Act.put, Act.eval, Value.cells, splice] at hM); have HL := Lib.hid hM; clear hM; have S := T; clear T; have F := factsAll HL S; (try simp only [factsOf, cellsFrom, and_true, true_and, Nat.reduceAdd] at F)))
  have HS := Lib.hid (Sees.row S (atOf HL (p := 0) rfl))
  obtain ⟨_, A', cap', rfl, hcap', hmax', hA'⟩ := id HS.out
  unfold maxLen at hmax'
  have HA := Lib.hid hA'
  have HX := Lib.hid hz
  clear hA' hz
  have HE := Lib.hid S.below
  clear F HL S
  clear HB0
  obtain ⟨L, HL, S⟩ := st_start w2
  have F : True := trivial
  have CI := fun w h => C_impl_FirstWrong (.slice A' m cap') m zs key w HX.out h
  have CS := fun w h => C_spec_FirstWrong (.slice A' m cap') m zs key w HX.out h
  by_cases hm20 : m > 20
  · have e : firstW m zs key = -1 := firstW_out (by rw [decide_eq_false (by omega)]; rfl)
    simp only [e] at CI CS
    clear e
    go_wp2_with (first | (refine wpList_box rfl S _ _ rfl ?_; intro g w L hM T; clear F S; (try rw [HL.out] at hM); clear HL; (try simp [Act.put, Act.eval, Value.cells, splice] at hM); have HL := Lib.hid hM; clear hM; have S := T; clear T; have F := factsAll HL S; (try simp only [factsOf, cellsFrom, and_true, true_and, Nat.reduceAdd] at F))  | (refine wpList_store_box rfl S _ _ _ rfl 0 _ _ _ _ (atOf HL rfl) rfl _ rfl (by kernel_rfl) rfl rfl ?_; intro w L hM T; clear F S; (try rw [HL.out] at hM); clear HL; (try simp [Act.put, Act.eval, Value.cells, splice] at hM); have HL := Lib.hid hM; clear hM; have S := T; clear T; have F := factsAll HL S; (try simp only [factsOf, cellsFrom, and_true, true_and, Nat.reduceAdd] at F)) | (refine wpList_store_box rfl S _ _ _ rfl 1 _ _ _ _ (atOf HL rfl) rfl _ rfl (by kernel_rfl) rfl rfl ?_; intro w L hM T; clear F S; (try rw [HL.out] at hM); clear HL; (try simp [Act.put, Act.eval, Value.cells, splice] at hM); have HL := Lib.hid hM; clear hM; have S := T; clear T; have F := factsAll HL S; (try simp only [factsOf, cellsFrom, and_true, true_and, Nat.reduceAdd] at F)) | (refine wpList_store_box rfl S _ _ _ rfl 2 _ _ _ _ (atOf HL rfl) rfl _ rfl (by kernel_rfl) rfl rfl ?_; intro w L hM T; clear F S; (try rw [HL.out] at hM); clear HL; (try simp [Act.put, Act.eval, Value.cells, splice] at hM); have HL := Lib.hid hM; clear hM; have S := T; clear T; have F := factsAll HL S; (try simp only [factsOf, cellsFrom, and_true, true_and, Nat.reduceAdd] at F)) | (refine wpList_store_box rfl S _ _ _ rfl 3 _ _ _ _ (atOf HL rfl) rfl _ rfl (by kernel_rfl) rfl rfl ?_; intro w L hM T; clear F S; (try rw [HL.out] at hM); clear HL; (try simp [Act.put, Act.eval, Value.cells, splice] at hM); have HL := Lib.hid hM; clear hM; have S := T; clear T; have F := factsAll HL S; (try simp only [factsOf, cellsFrom, and_true, true_and, Nat.reduceAdd] at F))  | (go_at_call 60; refine (CI _ (HS.out.at_ S)).mono ?_; rintro e w ⟨rfl, hb⟩; replace S := S.grow hb; clear hb) | (go_at_call 61; refine (CS _ (HS.out.at_ S)).mono ?_; rintro e w ⟨rfl, hb⟩; replace S := S.grow hb; clear hb) | (go_at_call 21; refine (C_alive _).mono ?_; rintro e w' ⟨rfl, rfl⟩))
    go_ret
    exact ⟨rfl, HE.out.trans (S.below.mono HE.out.size)⟩
  obtain ⟨p, hp, hall, hbad, hnone⟩ := first_cases (zs := zs) (by omega : m ≤ 20) hkey
  generalize firstW m zs key = fw at CI CS hbad hnone
  have HALL := Lib.hid hall
  have HBAD := Lib.hid hbad
  have HNONE := Lib.hid hnone
  clear hall hbad hnone
  go_wp2_with (first | (refine wpList_box rfl S _ _ rfl ?_; intro g w L hM T; clear F S; (try rw [HL.out] at hM); clear HL; (try simp [Act.put, Act.eval, Value.cells, splice] at hM); have HL := Lib.hid hM; clear hM; have S := T; clear T; have F := factsAll HL S; (try simp only [factsOf, cellsFrom, and_true, true_and, Nat.reduceAdd] at F))  | (refine wpList_store_box rfl S _ _ _ rfl 0 _ _ _ _ (atOf HL rfl) rfl _ rfl (by kernel_rfl) rfl rfl ?_; intro w L hM T; clear F S; (try rw [HL.out] at hM); clear HL; (try simp [Act.put, Act.eval, Value.cells, splice] at hM); have HL := Lib.hid hM; clear hM; have S := T; clear T; have F := factsAll HL S; (try simp only [factsOf, cellsFrom, and_true, true_and, Nat.reduceAdd] at F)) | (refine wpList_store_box rfl S _ _ _ rfl 1 _ _ _ _ (atOf HL rfl) rfl _ rfl (by kernel_rfl) rfl rfl ?_; intro w L hM T; clear F S; (try rw [HL.out] at hM); clear HL; (try simp [Act.put, Act.eval, Value.cells, splice] at hM); have HL := Lib.hid hM; clear hM; have S := T; clear T; have F := factsAll HL S; (try simp only [factsOf, cellsFrom, and_true, true_and, Nat.reduceAdd] at F)) | (refine wpList_store_box rfl S _ _ _ rfl 2 _ _ _ _ (atOf HL rfl) rfl _ rfl (by kernel_rfl) rfl rfl ?_; intro w L hM T; clear F S; (try rw [HL.out] at hM); clear HL; (try simp [Act.put, Act.eval, Value.cells, splice] at hM); have HL := Lib.hid hM; clear hM; have S := T; clear T; have F := factsAll HL S; (try simp only [factsOf, cellsFrom, and_true, true_and, Nat.reduceAdd] at F)) | (refine wpList_store_box rfl S _ _ _ rfl 3 _ _ _ _ (atOf HL rfl) rfl _ rfl (by kernel_rfl) rfl rfl ?_; intro w L hM T; clear F S; (try rw [HL.out] at hM); clear HL; (try simp [Act.put, Act.eval, Value.cells, splice] at hM); have HL := Lib.hid hM; clear hM; have S := T; clear T; have F := factsAll HL S; (try simp only [factsOf, cellsFrom, and_true, true_and, Nat.reduceAdd] at F))  | (go_at_call 60; refine (CI _ (HS.out.at_ S)).mono ?_; rintro e w ⟨rfl, hb⟩; replace S := S.grow hb; clear hb) | (go_at_call 61; refine (CS _ (HS.out.at_ S)).mono ?_; rintro e w ⟨rfl, hb⟩; replace S := S.grow hb; clear hb) | (go_at_call 21; refine (C_alive _).mono ?_; rintro e w' ⟨rfl, rfl⟩))
  clear CI CS
  go_loopw [6] (fun i wr => ∃ (k : Nat), k ≤ p ∧ i = .int .i64 k ∧ St w2 wr []) (fun i _ => m - (intOf i).toNat)
  case atStart => exact ⟨0, Nat.zero_le _, rfl, by rw [HL.out] at S; exact S⟩
  case round =>
    clear F HL S
    obtain ⟨k, hkp, rfl, S⟩ := hrel
    obtain ⟨L, HL⟩ : ∃ L : List Ent, Hid (L = []) := ⟨_, Lib.hid rfl⟩
    rw [← HL.out] at S
    have F : True := trivial
    by_cases hlt : k < m
    · obtain ⟨b, off, rfl, hb, hc⟩ := HA.out (by omega)
      have hcc : ∀ j i u, (ints zs)[j + i]? = some u → w2.cell? ⟨b, off + j + i, none⟩ = some u := fun j i u h => by rw [Nat.add_assoc]; exact hc _ _ h
      have q : k * 4 + 4 ≤ zs.length := by rw [HX.out]; omega
      have c0 := (S.below.cell (p := ⟨b, off + k * 4, none⟩) hb).trans (hc (k * 4) _ (ints_getD zs (k * 4) (by omega)))
      have c1 := (S.below.cell (p := ⟨b, off + k * 4 + 1, none⟩) hb).trans (hcc (k * 4) 1 _ (ints_getD zs (k * 4 + 1) (by omega)))
      have c2 := (S.below.cell (p := ⟨b, off + k * 4 + 2, none⟩) hb).trans (hcc (k * 4) 2 _ (ints_getD zs (k * 4 + 2) (by omega)))
      have c3 := (S.below.cell (p := ⟨b, off + k * 4 + 3, none⟩) hb).trans (hcc (k * 4) 3 _ (ints_getD zs (k * 4 + 3) (by omega)))
      have hck : ckAt zs k = ⟨⟨zs.getD (k * 4) 0, zs.getD (k * 4 + 1) 0⟩, ⟨zs.getD (k * 4 + 2) 0, zs.getD (k * 4 + 3) 0⟩⟩ := rfl
      generalize zs.getD (k * 4) 0 = x0 at c0 hck
      generalize zs.getD (k * 4 + 1) 0 = x1 at c1 hck
      generalize zs.getD (k * 4 + 2) 0 = x2 at c2 hck
      generalize zs.getD (k * 4 + 3) 0 = x3 at c3 hck
      have CK := fun w => C_impl_OpenChecked x0 x1 x2 x3 key w
      rw [← hck] at CK
      clear hc hcc q hck
      by_cases hkp' : k < p
      · have ho := HALL.out k hkp'
        simp only [ho] at CK
        clear ho
        generalize openC (ckAt zs k) key = oc at CK
        have hne : ((k : Int) == fw) = false := by
          rw [beq_eq_false_iff_ne]
          rcases Nat.lt_or_ge p m with h | h
          · rw [(HBAD.out h).1]; omega
          · rw [HNONE.out (by omega)]; omega
        go_wp2_with (first | (go_at_call 38; refine (CK _).mono ?_; rintro e w ⟨rfl, hb⟩; replace S := S.grow hb; clear hb))
        go_roundw
        case rel => exact ⟨k + 1, by omega, by go_num, S.sub (List.nil_sublist _)⟩
        case measure => simp [intOf]; omega
      · obtain rfl : k = p := by omega
        obtain ⟨hfw, ho⟩ := HBAD.out hlt
        simp only [ho] at CK
        clear ho
        subst hfw
        generalize openC (ckAt zs k) key = oc at CK
        go_wp2_with (first | (go_at_call 38; refine (CK _).mono ?_; rintro e w ⟨rfl, hb⟩; replace S := S.grow hb; clear hb))
        go_ret
        exact ⟨rfl, HE.out.trans (S.below.mono HE.out.size)⟩
    · obtain rfl : k = m := by omega
      obtain rfl : k = p := by omega
      have hfw := HNONE.out rfl
      subst hfw
      go_wp2
      go_ret
      exact ⟨rfl, HE.out.trans (S.below.mono HE.out.size)⟩

set_option maxRecDepth 100000 in
theorem FnFirstWrong_lifted (os : Os) (started : os.Started) (H : Type) (enc : TypeId × Value → H) :
    ReturnsInHanded {} Try.checked os 13 .any (Rows.fnFirstWrongSpec.pre6 enc Try.prog Try.f13 Rows.fnFirstWrongRow.domain false) (Rows.fnFirstWrongSpec.post enc Try.prog Try.f13 false true false false) := by
  refine returnsInHanded_of_change (C := Try.checked) Try.ownKnob_ started (by kernel_rfl) Try.func13
    (ChangeSpec.witness6 (enc := enc) (C := Try.checked) false ⟨#[], #[.slice none 0 0], []⟩ 8 (by kernel_rfl) (by kernel_rfl) (by kernel_rfl) (by kernel_rfl)) ?_
  intro W base args ds gs before hval0 hW _ _
  have hval : ∀ (j : Nat) t v, Try.f13.params[j]? = some t → args[j]? = some v → Value.okWide Try.prog W .any base t v := hval0
  have hW' := hW
  obtain ⟨p, q, hA0, hV, rfl, _, _⟩ := hW
  have hA : DataW.TrodAll enc Try.prog W 0 (fun _ => true) true Try.f13.params.toList args.toList ds p := hA0
  rw [Try.params13] at hA hval
  obtain ⟨v0, vs0, d0, ds0, p0, q0, hargs, rfl, rfl, h0, r0⟩ := trodAll_cons hA
  obtain ⟨rfl, rfl, rfl⟩ := trodAll_nil r0
  obtain rfl : args = #[v0] := by cases args; simp_all
  obtain ⟨rfl, rfl⟩ := trodVars_none hV
  clear hA0 hval0
  have s0 := open_bytes (e := 5) (by kernel_rfl) (hval 0 _ v0 rfl rfl) h0
  refine (L_FnFirstWrong _ W s0).mono fun e W' ⟨he, hb⟩ => ⟨_, he, ?_⟩
  exact law_post 4 Try.underlying4 Try.laidOut_ (by kernel_rfl) rfl rfl hW' ⟨rfl, rfl, rfl⟩ hb

theorem FnFirstWrong_holds : Rows.FnFirstWrongSaid :=
  OpenClaim.holds_of_wide 13 Try.f13 rfl rfl rfl rfl rfl rfl rfl ⟨rfl, rfl, rfl, rfl, rfl⟩ rfl rfl rfl rfl rfl (by kernel_rfl) Try.func13 (closed_of (by kernel_rfl))
    (of_decide_eq_true (by kernel_rfl)) (by unfold Func.isWrapper; first | (rw [if_pos (by decide +kernel)]; kernel_rfl) | (rw [if_neg (by decide +kernel)]; exact ⟨rfl, rfl⟩))
    (fun os started H enc _ => FnFirstWrong_lifted os started H enc)

end Go.Proofs.Ytdgeiooacghcoaa
