/-
  Contracts: own copies of rows of matrices, of layers (the reference's).
-/
import Derived.Test.YtdfpceobfficfaaLyS
import Derived.Test.YtdfpceobfficfaaMatO
namespace Go.Proofs.Ytdfpceobfficfaa
set_option linter.unusedSimpArgs false
set_option linter.unusedVariables false
set_option linter.unusedSectionVars false
open Go Go.RowKit
set_option maxHeartbeats 8000000
set_option maxRecDepth 20000
section
variable {P : Program} {w0 w : World} {a : Act} {L : List Ent} {o : Oper} {ops : Array Oper} {rest : List Oper} {Q : Exit → Act → World → Prop}
theorem fil3 (C : Array Value) (hC : C.size = 3) (a b c : Value) : Instr.fill (fun i => some (i * 3, 3)) C [(0, .agg #[a, b, c])] = some #[a, b, c] := by
  obtain ⟨l⟩ := C
  match l, hC with
  | [_, _, _], _ => simp [Instr.fill, Value.cells]
theorem fil2 (C : Array Value) (hC : C.size = 2) (a b : Value) : Instr.fill (fun i => some (i * 2, 2)) C [(0, .agg #[a, b])] = some #[a, b] := by
  obtain ⟨l⟩ := C
  match l, hC with
  | [_, _], _ => simp [Instr.fill, Value.cells]
theorem wpList_litX (hgd : o.guard = none) (S : St w0 w L) (t : TypeId) (x : Operand) (ho : o.op = .buildSlice t 1 #[(0, x)])
    (e : TypeId) (ht : P.underlying t = some (.slice e)) {z : Value} {bytes : Nat} (hi : (P.info? e).map (fun i => (i.zero, i.size, i.bytes)) = some (some z, 3, bytes))
    (c0 c1 c2 : Value) (hx : a.eval x = .agg #[c0, c1, c2])
    (h : ∀ g w' M, M = .box g e [c0, c1, c2] :: L → St w0 w' M → wpList P ops Q rest (a.put o.dst (.slice (some ⟨g, 0, none⟩) 1 1)) w') : wpList P ops Q (o :: rest) a w := by
  obtain ⟨i, hi0, hz0, hz1, hz2⟩ := info_parts hi
  refine Go.wpList_buildSlice hgd t e 1 _ ho #[c0, c1, c2] i z ht hi0 hz0 (by rw [hz1]; omega) (by rw [hz1]; omega) ?_ (h _ _ _ rfl (S.new e _))
  rw [hz1, Array.toList_map]
  show Instr.fill _ _ [(0, a.eval x)] = _
  rw [hx]
  exact fil3 _ (by simp) _ _ _
theorem wpList_litY (hgd : o.guard = none) (S : St w0 w L) (t : TypeId) (x : Operand) (ho : o.op = .buildSlice t 1 #[(0, x)])
    (e : TypeId) (ht : P.underlying t = some (.slice e)) {z : Value} {bytes : Nat} (hi : (P.info? e).map (fun i => (i.zero, i.size, i.bytes)) = some (some z, 2, bytes))
    (c0 c1 : Value) (hx : a.eval x = .agg #[c0, c1])
    (h : ∀ g w' M, M = .box g e [c0, c1] :: L → St w0 w' M → wpList P ops Q rest (a.put o.dst (.slice (some ⟨g, 0, none⟩) 1 1)) w') : wpList P ops Q (o :: rest) a w := by
  obtain ⟨i, hi0, hz0, hz1, hz2⟩ := info_parts hi
  refine Go.wpList_buildSlice hgd t e 1 _ ho #[c0, c1] i z ht hi0 hz0 (by rw [hz1]; omega) (by rw [hz1]; omega) ?_ (h _ _ _ rfl (S.new e _))
  rw [hz1, Array.toList_map]
  show Instr.fill _ _ [(0, a.eval x)] = _
  rw [hx]
  exact fil2 _ (by simp) _ _
theorem wpList_append_boxB (hgd : o.guard = none) (S : St w0 w L) (s x : Operand) (t : TypeId) (ho : o.op = .call { callee := .builtin .append, args := #[s, x], argTypes := #[t, t] })
    (e : TypeId) (z : Value) (size bytes : Nat) (ht : P.underlying t = some (.slice e)) (hi : (P.info? e).map (fun i => (i.zero, i.size, i.bytes)) = some (some z, size, bytes))
    (hzs : z.cells.size = size) (hsz : 0 < size) (p n : Nat) (v : Value) (cs : List Value) (hs : a.eval s = v) (hp : At L p (.row e size v n cs)) (hn2 : n ≤ 2000000)
    (q g' m c : Nat) (e' : TypeId) (news : List Value) (hx : a.eval x = .slice (some ⟨g', 0, none⟩) m c) (hq : At L q (.box g' e' news)) (hl : news.length = m * size) (h1 : news.all (·.oneCell') = true)
    (hm2 : Nat.ble m 1000 = true) (hb2 : Nat.ble bytes 1000 = true)
    (h : ∀ v' w' M, M = L.set p (.row e size v' (n + m) (cs ++ news)) → St w0 w' M → wpList P ops Q rest (a.put o.dst v') w') : wpList P ops Q (o :: rest) a w := by
  have hm3 : m ≤ 1000 := by simpa using hm2
  have hb3 : bytes ≤ 1000 := by simpa using hb2
  refine wpList_append hgd S s x t ho p e z size bytes ht hi hzs hsz v n cs hs hp ⟨g', 0, none⟩ m c news hx hl (news_box S hq) h1 (by simp [maxLen]; omega) ?_ h
  have : (n + m) * bytes ≤ 2001000 * 1000 := Nat.mul_le_mul (by omega) hb3
  omega
end
theorem C_l1OwnMatrixList (v : Value) (ms : List Mx) (w0 : World) (h : SeesMs w0 v ms) (hn0 : ms.length ≤ 1048576) (hx : ∀ m ∈ ms, m.xs.length ≤ 1048576) :
    Calls Try.prog 113 #[v] w0 fun e w => ∃ u ps, e = .returned u ∧ ps.map Prod.snd = ms ∧ St w0 w (entsM u ps) := by
  obtain ⟨A, cap, rfl, hcap, hmax, hA⟩ := h
  obtain ⟨n, hn⟩ : ∃ n, ms.length = n := ⟨_, rfl⟩
  rw [hn] at hcap hA hn0 ⊢
  unfold maxLen at hmax
  have HA := Lib.hid hA
  have HN := Lib.hid hn
  have HX := Lib.hid hx
  clear hA hn hx
  have CT := fun r c xs v w h hn => C_l1OwnMatrix r c xs v w h hn
  unfold MakesMx at CT
  obtain ⟨L, HL, S⟩ := st_start w0; have F : True := trivial
  go_enter Try.func113, Try.ntmps113
  go_wp2_with (first | (refine wpList_empty rfl S _ rfl 55 Try.underlying31 infoMx ?_; intro g w L hM T; clear F S; (try rw [HL.out] at hM); clear HL; (try simp [Act.put, Act.eval, Value.cells, splice] at hM); have HL := Lib.hid hM; clear hM; have S := T; clear T; have F := factsAll HL S; (try simp only [factsOf, cellsFrom, and_true, true_and, Nat.reduceAdd] at F)))
  go_loopw [4, 3] (fun i o wr => ∃ (k : Nat) (u : Value) (ps : MsO) (L : List Ent), k ≤ n ∧ i = .int .i64 k ∧ o = u ∧ Hid (ps.map Prod.snd = ms.take k) ∧ Hid (L = .row 55 3 u k (cellsM ps) :: rowsM ps) ∧ St w0 wr L) (fun i _ _ => n - (intOf i).toNat)
  case atStart => exact ⟨0, _, [], L, Nat.zero_le _, rfl, rfl, Lib.hid rfl, HL, S⟩
  case round =>
    clear F HL S
    obtain ⟨k, u, ps, L, hk, rfl, rfl, HP, HL, S⟩ := hrel
    have F : True := trivial
    have hpl : ps.length = k := by
      have := congrArg List.length HP.out
      rw [List.length_map, List.length_take, HN.out] at this
      omega
    by_cases hlt : k < n
    · obtain ⟨b, off, rfl, hb, hc⟩ := HA.out (by omega)
      obtain ⟨m, hm⟩ := some_at HN.out hlt
      obtain ⟨u, c1, c2, c3, hu⟩ := hc k m hm
      have hmx := HX.out m (List.mem_of_getElem? hm)
      have hp' := take_at hm
      rw [← HP.out] at hp'
      have HP' := Lib.hid hp'
      have f1 := fun w' (S' : St w0 w' L) => (S'.below.cell (p := ⟨b, off + k * 3, none⟩) hb).trans c1
      have f2 := fun w' (S' : St w0 w' L) => (S'.below.cell (p := ⟨b, off + k * 3 + 1, none⟩) hb).trans c2
      have f3 := fun w' (S' : St w0 w' L) => (S'.below.cell (p := ⟨b, off + k * 3 + 2, none⟩) hb).trans c3
      have HU := Lib.hid hu
      obtain ⟨_, A', cap', rfl, hcap', hmax', _⟩ := hu
      clear hc c1 c2 c3 hp' hpl
      obtain ⟨r, c, xs⟩ := m
      dsimp only at *
      go_wp2_with (first | (go_at_call 65; refine (CT r c xs _ _ (HU.out.at_ S) hmx).mono ?_; rintro e w ⟨u, rfl, T0⟩; obtain ⟨L, hM, T⟩ := st_name (S.call T0); clear T0; clear F S; (try rw [HL.out] at hM); clear HL; (try simp [Act.put, Act.eval, Value.cells, splice] at hM); have HL := Lib.hid hM; clear hM; have S := T; clear T; have F := factsAll HL S; (try simp only [factsOf, cellsFrom, and_true, true_and, Nat.reduceAdd] at F); obtain ⟨A', cap', rfl, hcap', hmax'⟩ := S.sliceOf (atOf HL (p := 0) rfl)) | (refine wpList_litX rfl S _ _ rfl 55 Try.underlying31 infoMx _ _ _ rfl ?_; intro g w L hM T; clear F S; (try rw [HL.out] at hM); clear HL; (try simp [Act.put, Act.eval, Value.cells, splice] at hM); have HL := Lib.hid hM; clear hM; have S := T; clear T; have F := factsAll HL S; (try simp only [factsOf, cellsFrom, and_true, true_and, Nat.reduceAdd] at F)) | (refine wpList_append_boxB rfl S _ _ _ rfl 55 _ 3 40 Try.underlying31 infoMx rfl (by omega) _ _ _ _ rfl (by first | exact atOf HL (p := 0) rfl | exact atOf HL (p := 1) rfl | exact atOf HL (p := 2) rfl | exact atOf HL (p := 3) rfl | exact atOf HL (p := 4) rfl | exact atOf HL (p := 5) rfl | exact atOf HL (p := 6) rfl | exact atOf HL (p := 7) rfl) (by omega) _ _ _ _ _ _ rfl (by first | exact atOf HL (p := 0) rfl | exact atOf HL (p := 1) rfl | exact atOf HL (p := 2) rfl | exact atOf HL (p := 3) rfl | exact atOf HL (p := 4) rfl | exact atOf HL (p := 5) rfl | exact atOf HL (p := 6) rfl | exact atOf HL (p := 7) rfl) rfl rfl rfl rfl ?_; intro u w L hM T; clear F S; (try rw [HL.out] at hM); clear HL; (try simp [Act.put, Act.eval, Value.cells, splice] at hM); have HL := Lib.hid hM; clear hM; have S := T; clear T; have F := factsAll HL S; (try simp only [factsOf, cellsFrom, and_true, true_and, Nat.reduceAdd] at F)))
      go_roundw
      case rel =>
        rw [HL.out] at S
        have T := (S.sub (.cons _ (.refl _))).perm ((List.Perm.swap _ _ _).trans (List.Perm.cons _ (List.perm_append_singleton _ _).symm))
        exact ⟨k + 1, _, ps ++ [(.slice A' xs.length cap', ⟨r, c, xs⟩)], _, by omega, by go_num, rfl, Lib.hid (by rw [List.map_append, HP'.out]; rfl), Lib.hid (by rw [rowsM_add, cellsM_add]; rfl), T⟩
      case measure => simp [intOf]; omega
    · obtain rfl : k = n := by omega
      go_wp2
      go_ret
      rw [HL.out] at S
      have hp := HP.out
      rw [List.take_of_length_le (Nat.le_of_eq HN.out)] at hp
      refine ⟨_, ps, rfl, hp, ?_⟩
      unfold entsM
      rw [hpl]
      exact S
theorem C_l1OwnLayer (k : Int) (v : Value) (ms : List Mx) (w0 : World) (h : SeesMs w0 v ms) (hn : ms.length ≤ 1048576) (hx : ∀ m ∈ ms, m.xs.length ≤ 1048576) :
    Calls Try.prog 83 #[.agg #[.int .i64 k, v]] w0 fun e w => ∃ u ps, e = .returned (.agg #[.int .i64 k, u]) ∧ ps.map Prod.snd = ms ∧ St w0 w (entsM u ps) := by
  have H := Lib.hid h
  have HX := Lib.hid hx
  obtain ⟨A, cap, rfl, hcap, hmax, _⟩ := h
  clear hx
  obtain ⟨L, HL, S⟩ := st_start w0; have F : True := trivial
  go_enter Try.func83, Try.ntmps83
  go_wp2_with (first | (refine wpList_box rfl S _ _ rfl ?_; intro g w L hM T; clear F S; (try rw [HL.out] at hM); clear HL; (try simp [Act.put, Act.eval, Value.cells, splice] at hM); have HL := Lib.hid hM; clear hM; have S := T; clear T; have F := factsAll HL S; (try simp only [factsOf, cellsFrom, and_true, true_and, Nat.reduceAdd] at F)) | (refine wpList_alloc rfl S 33 _ rfl zLy ?_; intro g w L hM T; clear F S; (try rw [HL.out] at hM); clear HL; (try simp [Act.put, Act.eval, Value.cells, splice] at hM); have HL := Lib.hid hM; clear hM; have S := T; clear T; have F := factsAll HL S; (try simp only [factsOf, cellsFrom, and_true, true_and, Nat.reduceAdd] at F)) | (refine wpList_store_box rfl S _ _ _ rfl 0 _ _ _ _ (atOf HL rfl) rfl _ rfl (by kernel_rfl) rfl rfl ?_; intro w L hM T; clear F S; (try rw [HL.out] at hM); clear HL; (try simp [Act.put, Act.eval, Value.cells, splice] at hM); have HL := Lib.hid hM; clear hM; have S := T; clear T; have F := factsAll HL S; (try simp only [factsOf, cellsFrom, and_true, true_and, Nat.reduceAdd] at F)) | (refine wpList_store_box rfl S _ _ _ rfl 1 _ _ _ _ (atOf HL rfl) rfl _ rfl (by kernel_rfl) rfl rfl ?_; intro w L hM T; clear F S; (try rw [HL.out] at hM); clear HL; (try simp [Act.put, Act.eval, Value.cells, splice] at hM); have HL := Lib.hid hM; clear hM; have S := T; clear T; have F := factsAll HL S; (try simp only [factsOf, cellsFrom, and_true, true_and, Nat.reduceAdd] at F)) | (refine wpList_store_box rfl S _ _ _ rfl 2 _ _ _ _ (atOf HL rfl) rfl _ rfl (by kernel_rfl) rfl rfl ?_; intro w L hM T; clear F S; (try rw [HL.out] at hM); clear HL; (try simp [Act.put, Act.eval, Value.cells, splice] at hM); have HL := Lib.hid hM; clear hM; have S := T; clear T; have F := factsAll HL S; (try simp only [factsOf, cellsFrom, and_true, true_and, Nat.reduceAdd] at F)) | (refine wpList_store_box rfl S _ _ _ rfl 3 _ _ _ _ (atOf HL rfl) rfl _ rfl (by kernel_rfl) rfl rfl ?_; intro w L hM T; clear F S; (try rw [HL.out] at hM); clear HL; (try simp [Act.put, Act.eval, Value.cells, splice] at hM); have HL := Lib.hid hM; clear hM; have S := T; clear T; have F := factsAll HL S; (try simp only [factsOf, cellsFrom, and_true, true_and, Nat.reduceAdd] at F))  | (go_at_call 113; refine (C_l1OwnMatrixList _ ms _ (H.out.at_ S) hn HX.out).mono ?_; rintro e w ⟨u, ps, rfl, hps, T0⟩; have HPS := Lib.hid hps; clear hps; obtain ⟨Au, cu, rfl, hcu, hmu⟩ := T0.sliceOf (p := 0) (show At _ 0 _ from rfl); obtain ⟨L, hM, T⟩ := st_name ((S.call T0).perm List.perm_append_comm); clear T0; clear F S; (try rw [HL.out] at hM); clear HL; (try simp [Act.put, Act.eval, Value.cells, splice] at hM); have HL := Lib.hid hM; clear hM; have S := T; clear T; have F := factsAll HL S; (try simp only [factsOf, cellsFrom, and_true, true_and, Nat.reduceAdd] at F)))
  ((try simp only [Exit.inBlock, Exit.then]); refine ret1 rfl (resCell S HL 1 rfl rfl (by kernel_rfl)) rfl ?_)
  exact ⟨_, ps, rfl, HPS.out, (by rw [HL.out] at S; exact S.sub (by repeat (first | exact .refl _ | exact List.nil_sublist _ | apply List.Sublist.cons_cons | apply List.Sublist.cons)))⟩
theorem C_l1OwnLayerList (v : Value) (ls : List Ly) (w0 : World) (h : SeesLs w0 v ls) (hn0 : ls.length ≤ 1048576) (hx : ∀ l ∈ ls, LySmall 1048576 l) :
    Calls Try.prog 47 #[v] w0 fun e w => ∃ u qs, e = .returned u ∧ qs.map lyO = ls ∧ St w0 w (entsL u qs) := by
  obtain ⟨A, cap, rfl, hcap, hmax, hA⟩ := h
  obtain ⟨n, hn⟩ : ∃ n, ls.length = n := ⟨_, rfl⟩
  rw [hn] at hcap hA hn0 ⊢
  unfold maxLen at hmax
  have HA := Lib.hid hA
  have HN := Lib.hid hn
  have HX := Lib.hid hx
  clear hA hn hx
  obtain ⟨L, HL, S⟩ := st_start w0; have F : True := trivial
  go_enter Try.func47, Try.ntmps47
  go_wp2_with (first | (refine wpList_empty rfl S _ rfl 33 Try.underlying25 infoLy ?_; intro g w L hM T; clear F S; (try rw [HL.out] at hM); clear HL; (try simp [Act.put, Act.eval, Value.cells, splice] at hM); have HL := Lib.hid hM; clear hM; have S := T; clear T; have F := factsAll HL S; (try simp only [factsOf, cellsFrom, and_true, true_and, Nat.reduceAdd] at F)))
  go_loopw [4, 3] (fun i o wr => ∃ (k : Nat) (u : Value) (qs : LsO) (L : List Ent), k ≤ n ∧ i = .int .i64 k ∧ o = u ∧ Hid (qs.map lyO = ls.take k) ∧ Hid (L = .row 33 2 u k (cellsL qs) :: rowsL qs) ∧ St w0 wr L) (fun i _ _ => n - (intOf i).toNat)
  case atStart => exact ⟨0, _, [], L, Nat.zero_le _, rfl, rfl, Lib.hid rfl, HL, S⟩
  case round =>
    clear F HL S
    obtain ⟨k, u, qs, L, hk, rfl, rfl, HP, HL, S⟩ := hrel
    have F : True := trivial
    have hpl : qs.length = k := by
      have := congrArg List.length HP.out
      rw [List.length_map, List.length_take, HN.out] at this
      omega
    by_cases hlt : k < n
    · obtain ⟨b, off, rfl, hb, hc⟩ := HA.out (by omega)
      obtain ⟨l, hm⟩ := some_at HN.out hlt
      obtain ⟨kind, ms⟩ := l
      obtain ⟨x, c1, c2, hu⟩ := hc k _ hm
      obtain ⟨hm1, hm2⟩ := HX.out _ (List.mem_of_getElem? hm)
      have hp' := take_at hm
      rw [← HP.out] at hp'
      have HP' := Lib.hid hp'
      dsimp only at c1 c2 hu hm1 hm2
      have f1 := fun w' (S' : St w0 w' L) => (S'.below.cell (p := ⟨b, off + k * 2, none⟩) hb).trans c1
      have f2 := fun w' (S' : St w0 w' L) => (S'.below.cell (p := ⟨b, off + k * 2 + 1, none⟩) hb).trans c2
      have HU := Lib.hid hu
      obtain ⟨A', cap', rfl, hcap', hmax', _⟩ := hu
      have HM2 := Lib.hid hm2
      clear hc c1 c2 hp' hm hm2 hpl
      go_wp2_with (first | (go_at_call 83; refine (C_l1OwnLayer kind _ ms _ (HU.out.at_ S) hm1 HM2.out).mono ?_; rintro e w ⟨u, ps, rfl, hps, T0⟩; have HPS := Lib.hid hps; clear hps; obtain ⟨Au, cu, rfl, hcu, hmu⟩ := T0.sliceOf (p := 0) (show At _ 0 _ from rfl); obtain ⟨L, hM, T⟩ := st_name ((S.call T0).perm List.perm_append_comm); clear T0; clear F S; (try rw [HL.out] at hM); clear HL; (try simp [Act.put, Act.eval, Value.cells, splice] at hM); have HL := Lib.hid hM; clear hM; have S := T; clear T; have F := factsAll HL S; (try simp only [factsOf, cellsFrom, and_true, true_and, Nat.reduceAdd] at F)) | (refine wpList_litY rfl S _ _ rfl 33 Try.underlying25 infoLy _ _ rfl ?_; intro g w L hM T; clear F S; (try rw [HL.out] at hM); clear HL; (try simp [Act.put, Act.eval, Value.cells, splice] at hM); have HL := Lib.hid hM; clear hM; have S := T; clear T; have F := factsAll HL S; (try simp only [factsOf, cellsFrom, and_true, true_and, Nat.reduceAdd] at F)) | (refine wpList_append_boxB rfl S _ _ _ rfl 33 _ 2 32 Try.underlying25 infoLy rfl (by omega) _ _ _ _ rfl (by first | exact atOf HL (p := 0) rfl | exact atOf HL (p := 1) rfl | exact atOf HL (p := 2) rfl | exact atOf HL (p := 3) rfl | exact atOf HL (p := 4) rfl | exact atOf HL (p := 5) rfl | exact atOf HL (p := 6) rfl | exact atOf HL (p := 7) rfl) (by omega) _ _ _ _ _ _ rfl (by first | exact atOf HL (p := 0) rfl | exact atOf HL (p := 1) rfl | exact atOf HL (p := 2) rfl | exact atOf HL (p := 3) rfl | exact atOf HL (p := 4) rfl | exact atOf HL (p := 5) rfl | exact atOf HL (p := 6) rfl | exact atOf HL (p := 7) rfl) rfl rfl rfl rfl ?_; intro u w L hM T; clear F S; (try rw [HL.out] at hM); clear HL; (try simp [Act.put, Act.eval, Value.cells, splice] at hM); have HL := Lib.hid hM; clear hM; have S := T; clear T; have F := factsAll HL S; (try simp only [factsOf, cellsFrom, and_true, true_and, Nat.reduceAdd] at F)))
      go_roundw
      case rel =>
        rw [HL.out] at S
        have T := S.sub (.cons _ (.refl _))
        exact ⟨k + 1, _, qs ++ [(.slice Au ps.length cu, kind, ps)], _, by omega, by go_num, rfl, Lib.hid (by rw [List.map_append, HP'.out]; simp [lyO, HPS.out]), Lib.hid (by rw [rowsL_add, cellsL_add]; simp [rowsL, rowL, cellsL, cellL]), T⟩
      case measure => simp [intOf]; omega
    · obtain rfl : k = n := by omega
      go_wp2
      go_ret
      rw [HL.out] at S
      have hp := HP.out
      rw [List.take_of_length_le (Nat.le_of_eq HN.out)] at hp
      refine ⟨_, qs, rfl, hp, ?_⟩
      unfold entsL
      rw [hpl]
      exact S
end Go.Proofs.Ytdfpceobfficfaa
