/-
  Contracts: own copies of rows of shared matrices, of shared layers (the reference's).
-/
import Derived.Test.YtdfpceobfficfaaSlS
import Derived.Test.YtdfpceobfficfaaLyM
namespace Go.Proofs.Ytdfpceobfficfaa
set_option linter.unusedSimpArgs false
set_option linter.unusedVariables false
set_option linter.unusedSectionVars false
open Go Go.RowKit
set_option maxHeartbeats 8000000
set_option maxRecDepth 20000
section
variable {P : Program} {w0 w : World} {a : Act} {L : List Ent} {o : Oper} {ops : Array Oper} {rest : List Oper} {Q : Exit → Act → World → Prop}
theorem fil6 (C : Array Value) (hC : C.size = 6) (a b c d e f : Value) : Instr.fill (fun i => some (i * 6, 6)) C [(0, .agg #[a, b, c, d, e, f])] = some #[a, b, c, d, e, f] := by
  obtain ⟨l⟩ := C
  match l, hC with
  | [_, _, _, _, _, _], _ => simp [Instr.fill, Value.cells]
theorem wpList_litZ (hgd : o.guard = none) (S : St w0 w L) (t : TypeId) (x : Operand) (ho : o.op = .buildSlice t 1 #[(0, x)])
    (e : TypeId) (ht : P.underlying t = some (.slice e)) {z : Value} {bytes : Nat} (hi : (P.info? e).map (fun i => (i.zero, i.size, i.bytes)) = some (some z, 6, bytes))
    (c0 c1 c2 c3 c4 c5 : Value) (hx : a.eval x = .agg #[c0, c1, c2, c3, c4, c5])
    (h : ∀ g w' M, M = .box g e [c0, c1, c2, c3, c4, c5] :: L → St w0 w' M → wpList P ops Q rest (a.put o.dst (.slice (some ⟨g, 0, none⟩) 1 1)) w') : wpList P ops Q (o :: rest) a w := by
  obtain ⟨i, hi0, hz0, hz1, hz2⟩ := info_parts hi
  refine Go.wpList_buildSlice hgd t e 1 _ ho #[c0, c1, c2, c3, c4, c5] i z ht hi0 hz0 (by rw [hz1]; omega) (by rw [hz1]; omega) ?_ (h _ _ _ rfl (S.new e _))
  rw [hz1, Array.toList_map]
  show Instr.fill _ _ [(0, a.eval x)] = _
  rw [hx]
  exact fil6 _ (by simp) _ _ _ _ _ _
end
theorem C_l1OwnSharedMatrixList (v : Value) (ms : List SMx) (w0 : World) (h : SeesSMs w0 v ms) (hn0 : ms.length ≤ 1048576) (hx : ∀ m ∈ ms, SMSmall 1048576 m) :
    Calls Try.prog 108 #[v] w0 fun e w => ∃ u ps, e = .returned u ∧ ps.map smO = ms ∧ St w0 w (entsSM u ps) := by
  obtain ⟨A, cap, rfl, hcap, hmax, hA⟩ := h
  obtain ⟨n, hn⟩ : ∃ n, ms.length = n := ⟨_, rfl⟩
  rw [hn] at hcap hA hn0 ⊢
  unfold maxLen at hmax
  have HA := Lib.hid hA
  have HN := Lib.hid hn
  have HX := Lib.hid hx
  clear hA hn hx
  have CT := fun r c xs r' c' ys u v w h h' hn hn' => C_l1OwnSharedMatrix r c xs r' c' ys u v w h h' hn hn'
  unfold MakesSMx at CT
  obtain ⟨L, HL, S⟩ := st_start w0; have F : True := trivial
  go_enter Try.func108, Try.ntmps108
  go_wp2_with (first | (refine wpList_empty rfl S _ rfl 67 Try.underlying34 infoSMx ?_; intro g w L hM T; clear F S; (try rw [HL.out] at hM); clear HL; (try simp [Act.put, Act.eval, Value.cells, splice] at hM); have HL := Lib.hid hM; clear hM; have S := T; clear T; have F := factsAll HL S; (try simp only [factsOf, cellsFrom, and_true, true_and, Nat.reduceAdd] at F)))
  go_loopw [4, 3] (fun i o wr => ∃ (k : Nat) (u : Value) (ps : SMsO) (L : List Ent), k ≤ n ∧ i = .int .i64 k ∧ o = u ∧ Hid (ps.map smO = ms.take k) ∧ Hid (L = .row 67 6 u k (cellsSM ps) :: rowsSM ps) ∧ St w0 wr L) (fun i _ _ => n - (intOf i).toNat)
  case atStart => exact ⟨0, _, [], L, Nat.zero_le _, rfl, rfl, Lib.hid rfl, HL, S⟩
  case round =>
    clear F HL S
    obtain ⟨k, u, ps, L, hk, rfl, rfl, HP, HL, S⟩ := hrel
    have F : True := trivial
    have hpl : ps.length = k := by
      have := congrArg List.length HP.out
      rw [List.length_map, List.length_take, HN.out] at this
      omega
    by_cases hlt : k < n
    · obtain ⟨b, off, rfl, hb, hc⟩ := HA.out (by omega)
      obtain ⟨m, hm⟩ := some_at HN.out hlt
      obtain ⟨u, t, c1, c2, c3, c4, c5, c6, hu, ht⟩ := hc k m hm
      obtain ⟨hmx, hmy⟩ := HX.out m (List.mem_of_getElem? hm)
      have hp' := take_at hm
      rw [← HP.out] at hp'
      have HP' := Lib.hid hp'
      have f1 := fun w' (S' : St w0 w' L) => (S'.below.cell (p := ⟨b, off + k * 6, none⟩) hb).trans c1
      have f2 := fun w' (S' : St w0 w' L) => (S'.below.cell (p := ⟨b, off + k * 6 + 1, none⟩) hb).trans c2
      have f3 := fun w' (S' : St w0 w' L) => (S'.below.cell (p := ⟨b, off + k * 6 + 2, none⟩) hb).trans c3
      have f4 := fun w' (S' : St w0 w' L) => (S'.below.cell (p := ⟨b, off + k * 6 + 3, none⟩) hb).trans c4
      have f5 := fun w' (S' : St w0 w' L) => (S'.below.cell (p := ⟨b, off + k * 6 + 4, none⟩) hb).trans c5
      have f6 := fun w' (S' : St w0 w' L) => (S'.below.cell (p := ⟨b, off + k * 6 + 5, none⟩) hb).trans c6
      have HU := Lib.hid hu
      have HT := Lib.hid ht
      obtain ⟨_, A', cap', rfl, hcap', hmax', _⟩ := hu
      obtain ⟨_, B', cbp', rfl, hcbp', hmbx', _⟩ := ht
      clear hc c1 c2 c3 c4 c5 c6 hp' hpl
      obtain ⟨⟨r, c, xs⟩, ⟨r', c', ys⟩⟩ := m
      dsimp only at *
      go_wp2_with (first | (go_at_call 75; refine (CT r c xs r' c' ys _ _ _ (HU.out.at_ S) (HT.out.at_ S) hmx hmy).mono ?_; rintro e w ⟨u, v, rfl, T0⟩; obtain ⟨L, hM, T⟩ := st_name (S.call T0); clear T0; clear F S; (try rw [HL.out] at hM); clear HL; (try simp [Act.put, Act.eval, Value.cells, splice] at hM); have HL := Lib.hid hM; clear hM; have S := T; clear T; have F := factsAll HL S; (try simp only [factsOf, cellsFrom, and_true, true_and, Nat.reduceAdd] at F); obtain ⟨Av, cv, rfl, hcv, hmv⟩ := S.sliceOf (atOf HL (p := 0) rfl); obtain ⟨Au, cu, rfl, hcu, hmu⟩ := S.sliceOf (atOf HL (p := 1) rfl)) | (refine wpList_litZ rfl S _ _ rfl 67 Try.underlying34 infoSMx _ _ _ _ _ _ rfl ?_; intro g w L hM T; clear F S; (try rw [HL.out] at hM); clear HL; (try simp [Act.put, Act.eval, Value.cells, splice] at hM); have HL := Lib.hid hM; clear hM; have S := T; clear T; have F := factsAll HL S; (try simp only [factsOf, cellsFrom, and_true, true_and, Nat.reduceAdd] at F)) | (refine wpList_append_boxB rfl S _ _ _ rfl 67 _ 6 80 Try.underlying34 infoSMx rfl (by omega) _ _ _ _ rfl (by first | exact atOf HL (p := 0) rfl | exact atOf HL (p := 1) rfl | exact atOf HL (p := 2) rfl | exact atOf HL (p := 3) rfl | exact atOf HL (p := 4) rfl | exact atOf HL (p := 5) rfl | exact atOf HL (p := 6) rfl | exact atOf HL (p := 7) rfl) (by omega) _ _ _ _ _ _ rfl (by first | exact atOf HL (p := 0) rfl | exact atOf HL (p := 1) rfl | exact atOf HL (p := 2) rfl | exact atOf HL (p := 3) rfl | exact atOf HL (p := 4) rfl | exact atOf HL (p := 5) rfl | exact atOf HL (p := 6) rfl | exact atOf HL (p := 7) rfl) rfl rfl rfl rfl ?_; intro u w L hM T; clear F S; (try rw [HL.out] at hM); clear HL; (try simp [Act.put, Act.eval, Value.cells, splice] at hM); have HL := Lib.hid hM; clear hM; have S := T; clear T; have F := factsAll HL S; (try simp only [factsOf, cellsFrom, and_true, true_and, Nat.reduceAdd] at F)))
      go_roundw
      case rel =>
        rw [HL.out] at S
        have T := (S.sub (.cons _ (.refl _))).perm (sm_perm _ _ _ _)
        exact ⟨k + 1, _, ps ++ [(.slice Au xs.length cu, .slice Av ys.length cv, ⟨⟨r, c, xs⟩, ⟨r', c', ys⟩⟩)], _, by omega, by go_num, rfl, Lib.hid (by rw [List.map_append, HP'.out]; rfl), Lib.hid (by rw [rowsSM_add, cellsSM_add]; rfl), T⟩
      case measure => simp [intOf]; omega
    · obtain rfl : k = n := by omega
      go_wp2
      go_ret
      rw [HL.out] at S
      have hp := HP.out
      rw [List.take_of_length_le (Nat.le_of_eq HN.out)] at hp
      refine ⟨_, ps, rfl, hp, ?_⟩
      unfold entsSM
      rw [hpl]
      exact S
theorem C_l1OwnSharedLayer (k : Int) (v : Value) (ms : List SMx) (w0 : World) (h : SeesSMs w0 v ms) (hn : ms.length ≤ 1048576) (hx : ∀ m ∈ ms, SMSmall 1048576 m) :
    Calls Try.prog 74 #[.agg #[.int .i64 k, v]] w0 fun e w => ∃ u ps, e = .returned (.agg #[.int .i64 k, u]) ∧ ps.map smO = ms ∧ St w0 w (entsSM u ps) := by
  have H := Lib.hid h
  have HX := Lib.hid hx
  obtain ⟨A, cap, rfl, hcap, hmax, _⟩ := h
  clear hx
  obtain ⟨L, HL, S⟩ := st_start w0; have F : True := trivial
  go_enter Try.func74, Try.ntmps74
  go_wp2_with (first | (refine wpList_box rfl S _ _ rfl ?_; intro g w L hM T; clear F S; (try rw [HL.out] at hM); clear HL; (try simp [Act.put, Act.eval, Value.cells, splice] at hM); have HL := Lib.hid hM; clear hM; have S := T; clear T; have F := factsAll HL S; (try simp only [factsOf, cellsFrom, and_true, true_and, Nat.reduceAdd] at F)) | (refine wpList_alloc rfl S 36 _ rfl zSLy ?_; intro g w L hM T; clear F S; (try rw [HL.out] at hM); clear HL; (try simp [Act.put, Act.eval, Value.cells, splice] at hM); have HL := Lib.hid hM; clear hM; have S := T; clear T; have F := factsAll HL S; (try simp only [factsOf, cellsFrom, and_true, true_and, Nat.reduceAdd] at F)) | (refine wpList_store_box rfl S _ _ _ rfl 0 _ _ _ _ (atOf HL rfl) rfl _ rfl (by kernel_rfl) rfl rfl ?_; intro w L hM T; clear F S; (try rw [HL.out] at hM); clear HL; (try simp [Act.put, Act.eval, Value.cells, splice] at hM); have HL := Lib.hid hM; clear hM; have S := T; clear T; have F := factsAll HL S; (try simp only [factsOf, cellsFrom, and_true, true_and, Nat.reduceAdd] at F)) | (refine wpList_store_box rfl S _ _ _ rfl 1 _ _ _ _ (atOf HL rfl) rfl _ rfl (by kernel_rfl) rfl rfl ?_; intro w L hM T; clear F S; (try rw [HL.out] at hM); clear HL; (try simp [Act.put, Act.eval, Value.cells, splice] at hM); have HL := Lib.hid hM; clear hM; have S := T; clear T; have F := factsAll HL S; (try simp only [factsOf, cellsFrom, and_true, true_and, Nat.reduceAdd] at F)) | (refine wpList_store_box rfl S _ _ _ rfl 2 _ _ _ _ (atOf HL rfl) rfl _ rfl (by kernel_rfl) rfl rfl ?_; intro w L hM T; clear F S; (try rw [HL.out] at hM); clear HL; (try simp [Act.put, Act.eval, Value.cells, splice] at hM); have HL := Lib.hid hM; clear hM; have S := T; clear T; have F := factsAll HL S; (try simp only [factsOf, cellsFrom, and_true, true_and, Nat.reduceAdd] at F)) | (refine wpList_store_box rfl S _ _ _ rfl 3 _ _ _ _ (atOf HL rfl) rfl _ rfl (by kernel_rfl) rfl rfl ?_; intro w L hM T; clear F S; (try rw [HL.out] at hM); clear HL; (try simp [Act.put, Act.eval, Value.cells, splice] at hM); have HL := Lib.hid hM; clear hM; have S := T; clear T; have F := factsAll HL S; (try simp only [factsOf, cellsFrom, and_true, true_and, Nat.reduceAdd] at F))  | (go_at_call 108; refine (C_l1OwnSharedMatrixList _ ms _ (H.out.at_ S) hn HX.out).mono ?_; rintro e w ⟨u, ps, rfl, hps, T0⟩; have HPS := Lib.hid hps; clear hps; obtain ⟨Au, cu, rfl, hcu, hmu⟩ := T0.sliceOf (p := 0) (show At _ 0 _ from rfl); obtain ⟨L, hM, T⟩ := st_name ((S.call T0).perm List.perm_append_comm); clear T0; clear F S; (try rw [HL.out] at hM); clear HL; (try simp [Act.put, Act.eval, Value.cells, splice] at hM); have HL := Lib.hid hM; clear hM; have S := T; clear T; have F := factsAll HL S; (try simp only [factsOf, cellsFrom, and_true, true_and, Nat.reduceAdd] at F)))
  ((try simp only [Exit.inBlock, Exit.then]); refine ret1 rfl (resCell S HL 1 rfl rfl (by kernel_rfl)) rfl ?_)
  exact ⟨_, ps, rfl, HPS.out, (by rw [HL.out] at S; exact S.sub (by repeat (first | exact .refl _ | exact List.nil_sublist _ | apply List.Sublist.cons_cons | apply List.Sublist.cons)))⟩
theorem C_l1OwnSharedLayerList (v : Value) (ls : List SLy) (w0 : World) (h : SeesSLs w0 v ls) (hn0 : ls.length ≤ 1048576) (hx : ∀ l ∈ ls, SLySmall 1048576 l) :
    Calls Try.prog 37 #[v] w0 fun e w => ∃ u qs, e = .returned u ∧ qs.map slyO = ls ∧ St w0 w (entsSL u qs) := by
  obtain ⟨A, cap, rfl, hcap, hmax, hA⟩ := h
  obtain ⟨n, hn⟩ : ∃ n, ls.length = n := ⟨_, rfl⟩
  rw [hn] at hcap hA hn0 ⊢
  unfold maxLen at hmax
  have HA := Lib.hid hA
  have HN := Lib.hid hn
  have HX := Lib.hid hx
  clear hA hn hx
  obtain ⟨L, HL, S⟩ := st_start w0; have F : True := trivial
  go_enter Try.func37, Try.ntmps37
  go_wp2_with (first | (refine wpList_empty rfl S _ rfl 36 Try.underlying23 infoSLy ?_; intro g w L hM T; clear F S; (try rw [HL.out] at hM); clear HL; (try simp [Act.put, Act.eval, Value.cells, splice] at hM); have HL := Lib.hid hM; clear hM; have S := T; clear T; have F := factsAll HL S; (try simp only [factsOf, cellsFrom, and_true, true_and, Nat.reduceAdd] at F)))
  go_loopw [4, 3] (fun i o wr => ∃ (k : Nat) (u : Value) (qs : SLsO) (L : List Ent), k ≤ n ∧ i = .int .i64 k ∧ o = u ∧ Hid (qs.map slyO = ls.take k) ∧ Hid (L = .row 36 2 u k (cellsSL qs) :: rowsSL qs) ∧ St w0 wr L) (fun i _ _ => n - (intOf i).toNat)
  case atStart => exact ⟨0, _, [], L, Nat.zero_le _, rfl, rfl, Lib.hid rfl, HL, S⟩
  case round =>
    clear F HL S
    obtain ⟨k, u, qs, L, hk, rfl, rfl, HP, HL, S⟩ := hrel
    have F : True := trivial
    have hpl : qs.length = k := by
      have := congrArg List.length HP.out
      rw [List.length_map, List.length_take, HN.out] at this
      omega
    by_cases hlt : k < n
    · obtain ⟨b, off, rfl, hb, hc⟩ := HA.out (by omega)
      obtain ⟨l, hm⟩ := some_at HN.out hlt
      obtain ⟨kind, ms⟩ := l
      obtain ⟨x, c1, c2, hu⟩ := hc k _ hm
      obtain ⟨hm1, hm2⟩ := HX.out _ (List.mem_of_getElem? hm)
      have hp' := take_at hm
      rw [← HP.out] at hp'
      have HP' := Lib.hid hp'
      dsimp only at c1 c2 hu hm1 hm2
      have f1 := fun w' (S' : St w0 w' L) => (S'.below.cell (p := ⟨b, off + k * 2, none⟩) hb).trans c1
      have f2 := fun w' (S' : St w0 w' L) => (S'.below.cell (p := ⟨b, off + k * 2 + 1, none⟩) hb).trans c2
      have HU := Lib.hid hu
      obtain ⟨A', cap', rfl, hcap', hmax', _⟩ := hu
      have HM2 := Lib.hid hm2
      clear hc c1 c2 hp' hm hm2 hpl
      go_wp2_with (first | (go_at_call 74; refine (C_l1OwnSharedLayer kind _ ms _ (HU.out.at_ S) hm1 HM2.out).mono ?_; rintro e w ⟨u, ps, rfl, hps, T0⟩; have HPS := Lib.hid hps; clear hps; obtain ⟨Au, cu, rfl, hcu, hmu⟩ := T0.sliceOf (p := 0) (show At _ 0 _ from rfl); obtain ⟨L, hM, T⟩ := st_name ((S.call T0).perm List.perm_append_comm); clear T0; clear F S; (try rw [HL.out] at hM); clear HL; (try simp [Act.put, Act.eval, Value.cells, splice] at hM); have HL := Lib.hid hM; clear hM; have S := T; clear T; have F := factsAll HL S; (try simp only [factsOf, cellsFrom, and_true, true_and, Nat.reduceAdd] at F)) | (refine wpList_litY rfl S _ _ rfl 36 Try.underlying23 infoSLy _ _ rfl ?_; intro g w L hM T; clear F S; (try rw [HL.out] at hM); clear HL; (try simp [Act.put, Act.eval, Value.cells, splice] at hM); have HL := Lib.hid hM; clear hM; have S := T; clear T; have F := factsAll HL S; (try simp only [factsOf, cellsFrom, and_true, true_and, Nat.reduceAdd] at F)) | (refine wpList_append_boxB rfl S _ _ _ rfl 36 _ 2 32 Try.underlying23 infoSLy rfl (by omega) _ _ _ _ rfl (by first | exact atOf HL (p := 0) rfl | exact atOf HL (p := 1) rfl | exact atOf HL (p := 2) rfl | exact atOf HL (p := 3) rfl | exact atOf HL (p := 4) rfl | exact atOf HL (p := 5) rfl | exact atOf HL (p := 6) rfl | exact atOf HL (p := 7) rfl) (by omega) _ _ _ _ _ _ rfl (by first | exact atOf HL (p := 0) rfl | exact atOf HL (p := 1) rfl | exact atOf HL (p := 2) rfl | exact atOf HL (p := 3) rfl | exact atOf HL (p := 4) rfl | exact atOf HL (p := 5) rfl | exact atOf HL (p := 6) rfl | exact atOf HL (p := 7) rfl) rfl rfl rfl rfl ?_; intro u w L hM T; clear F S; (try rw [HL.out] at hM); clear HL; (try simp [Act.put, Act.eval, Value.cells, splice] at hM); have HL := Lib.hid hM; clear hM; have S := T; clear T; have F := factsAll HL S; (try simp only [factsOf, cellsFrom, and_true, true_and, Nat.reduceAdd] at F)))
      go_roundw
      case rel =>
        rw [HL.out] at S
        have T := S.sub (.cons _ (.refl _))
        exact ⟨k + 1, _, qs ++ [(.slice Au ps.length cu, kind, ps)], _, by omega, by go_num, rfl, Lib.hid (by rw [List.map_append, HP'.out]; simp [slyO, HPS.out]), Lib.hid (by rw [rowsSL_add, cellsSL_add]; simp [rowsSL, rowSL, cellsSL, cellSL]), T⟩
      case measure => simp [intOf]; omega
    · obtain rfl : k = n := by omega
      go_wp2
      go_ret
      rw [HL.out] at S
      have hp := HP.out
      rw [List.take_of_length_le (Nat.le_of_eq HN.out)] at hp
      refine ⟨_, qs, rfl, hp, ?_⟩
      unfold entsSL
      rw [hpl]
      exact S
end Go.Proofs.Ytdfpceobfficfaa
