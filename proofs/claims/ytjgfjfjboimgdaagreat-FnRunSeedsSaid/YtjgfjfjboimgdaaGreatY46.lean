/- Own LyP LyM SpA RunP -/
import Derived.Great.BuildSlice
import Derived.Test.YtjgfjfjboimgdaaGreatY35
import Derived.Test.YtjgfjfjboimgdaaGreatY39
namespace Go.Proofs.YtjgfjfjboimgdaaGreat
set_option linter.unusedSimpArgs false
set_option linter.unusedVariables false
set_option linter.unusedSectionVars false
open Go Go.RowKit
set_option maxHeartbeats 8000000
set_option maxRecDepth 20000
section
set_option maxHeartbeats 1000000
theorem size2 : ∀ {l : List Value}, l.length = 2 → ∃ a b, l = [a, b]
  | [a, b], _ => ⟨a, b, rfl⟩
theorem fill2 (C : Array Value) (hC : C.size = 2) (a b : Value) : Instr.fill (fun i => some (i * 2, 2)) C [(0, .agg #[a, b])] = some #[a, b] := by
  obtain ⟨l⟩ := C
  obtain ⟨x0, x1, rfl⟩ := size2 (by simpa using hC)
  simp [Instr.fill, Value.cells]
section
variable {P : Program} {w0 w : World} {a : Act} {L : List Ent} {o : Oper} {ops : Array Oper} {rest : List Oper} {Q : Exit → Act → World → Prop}
theorem wpList_lit33 (hgd : o.guard = none) (S : St w0 w L) (t : TypeId) (x y : Operand) (ho : o.op = .buildSlice t 2 #[(0, x), (1, y)])
    (e : TypeId) (ht : P.underlying t = some (.slice e)) {z : Value} {bytes : Nat} (hi : (P.info? e).map (fun i => (i.zero, i.size, i.bytes)) = some (some z, 3, bytes))
    (c0 c1 c2 d0 d1 d2 : Value) (hx : a.eval x = .agg #[c0, c1, c2]) (hy : a.eval y = .agg #[d0, d1, d2])
    (h : ∀ g w' M, M = .box g e [c0, c1, c2, d0, d1, d2] :: L → St w0 w' M → wpList P ops Q rest (a.put o.dst (.slice (some ⟨g, 0, none⟩) 2 2)) w') : wpList P ops Q (o :: rest) a w :=
  wpList_litS hgd S t 2 _ ho e ht hi #[c0, c1, c2, d0, d1, d2] (fun C hC => by
    show Instr.fill _ C [(0, a.eval x), (1, a.eval y)] = _
    rw [hx, hy]; exact fill33 C hC _ _ _ _ _ _) (by omega) (by omega) h
end
end
section
def LySmall (b : Nat) (l : Ly) : Prop := l.ws.length ≤ b ∧ ∀ m ∈ l.ws, m.xs.length ≤ b
end
section
section
variable {P : Program} {w0 w : World} {a : Act} {L : List Ent} {o : Oper} {ops : Array Oper} {rest : List Oper} {Q : Exit → Act → World → Prop}
theorem wpList_litX (hgd : o.guard = none) (S : St w0 w L) (t : TypeId) (x : Operand) (ho : o.op = .buildSlice t 1 #[(0, x)])
    (e : TypeId) (ht : P.underlying t = some (.slice e)) {z : Value} {bytes : Nat} (hi : (P.info? e).map (fun i => (i.zero, i.size, i.bytes)) = some (some z, 3, bytes))
    (c0 c1 c2 : Value) (hx : a.eval x = .agg #[c0, c1, c2])
    (h : ∀ g w' M, M = .box g e [c0, c1, c2] :: L → St w0 w' M → wpList P ops Q rest (a.put o.dst (.slice (some ⟨g, 0, none⟩) 1 1)) w') : wpList P ops Q (o :: rest) a w := by
  obtain ⟨i, hi0, hz0, hz1, hz2⟩ := info_parts hi
  refine Go.wpList_buildSlice hgd t e 1 _ ho #[c0, c1, c2] i z ht hi0 hz0 (by rw [hz1]; omega) (by rw [hz1]; omega) ?_ (h _ _ _ rfl (S.new e _))
  rw [hz1, Array.toList_map]
  show Instr.fill _ _ [(0, a.eval x)] = _
  rw [hx]
  exact fil3 _ (by simp) _ _ _
end
theorem C_l1OwnMatrixList (v : Value) (ms : List Mx) (w0 : World) (h : SeesMs w0 v ms) (hn0 : ms.length ≤ 1048576) (hx : ∀ m ∈ ms, m.xs.length ≤ 1048576) :
    Calls Tryz.prog 196 #[v] w0 fun e w => ∃ u ps, e = .returned u ∧ ps.map Prod.snd = ms ∧ St w0 w (entsM u ps) := by
  obtain ⟨A, cap, rfl, hcap, hmax, hA⟩ := h
  obtain ⟨n, hn⟩ : ∃ n, ms.length = n := ⟨_, rfl⟩
  rw [hn] at hcap hA hn0 ⊢
  unfold maxLen at hmax
  have HA := Lib.hid hA
  have HN := Lib.hid hn
  have HX := Lib.hid hx
  clear hA hn hx
  have CT := fun r c xs v w h hn => C_l1OwnMatrix r c xs v w h hn
  unfold MakesMx at CT
  obtain ⟨L, HL, S⟩ := st_start w0; have F : True := trivial
  go_enter Tryz.func196, Tryz.ntmps196
  go_wp2_with (first | (refine wpList_empty rfl S _ rfl 30 Tryz.underlying49 infoMx ?_; clear F S; intro g w L hM S; replace HL := qNm HL hM; clear hM; have F := qFc HL S))
  go_loopw [4, 3] (fun i o wr => ∃ (k : Nat) (u : Value) (ps : MsO) (L : List Ent), k ≤ n ∧ i = .int .i64 k ∧ o = u ∧ Hid (ps.map Prod.snd = ms.take k) ∧ Hid (L = .row 30 3 u k (cellsM ps) :: rowsM ps) ∧ St w0 wr L) (fun i _ _ => n - (intOf i).toNat)
  case atStart => exact ⟨0, _, [], L, Nat.zero_le _, rfl, rfl, Lib.hid rfl, HL, S⟩
  case round =>
    clear F HL S
    obtain ⟨k, u, ps, L, hk, rfl, rfl, HP, HL, S⟩ := hrel
    have F : True := trivial
    have hpl : ps.length = k := by
      have := congrArg List.length HP.out
      rw [List.length_map, List.length_take, HN.out] at this
      omega
    by_cases hlt : k < n
    · obtain ⟨b, off, rfl, hb, hc⟩ := HA.out (by omega)
      obtain ⟨m, hm⟩ := some_at HN.out hlt
      obtain ⟨u, c1, c2, c3, hu⟩ := hc k m hm
      have hmx := HX.out m (List.mem_of_getElem? hm)
      have hp' := take_at hm
      rw [← HP.out] at hp'
      have HP' := Lib.hid hp'
      have f1 := fun w' (S' : St w0 w' L) => (S'.below.cell (p := ⟨b, off + k * 3, none⟩) hb).trans c1
      have f2 := fun w' (S' : St w0 w' L) => (S'.below.cell (p := ⟨b, off + k * 3 + 1, none⟩) hb).trans c2
      have f3 := fun w' (S' : St w0 w' L) => (S'.below.cell (p := ⟨b, off + k * 3 + 2, none⟩) hb).trans c3
      have HU := Lib.hid hu
      obtain ⟨_, A', cap', rfl, hcap', hmax', _⟩ := hu
      clear hc c1 c2 c3 hp' hpl
      obtain ⟨r, c, xs⟩ := m
      dsimp only at *
      go_wp2_with (first | (go_at_call 88; refine (CT r c xs _ _ (HU.out.at_ S) hmx).mono ?_; rintro e w ⟨u, rfl, T0⟩; have hX := qcl HL S T0; clear F S HL T0; obtain ⟨L, HL, S, F⟩ := hX; obtain ⟨A', cap', rfl, hcap', hmax'⟩ := qSl HL S 0) | (refine wpList_litX rfl S _ _ rfl 30 Tryz.underlying49 infoMx _ _ _ rfl ?_; clear F S; intro g w L hM S; replace HL := qNm HL hM; clear hM; have F := qFc HL S) | (refine wpList_append_boxB rfl S _ _ _ rfl 30 _ 3 40 Tryz.underlying49 infoMx rfl (by omega) _ _ _ _ rfl qAt (by omega) _ _ _ _ _ _ rfl qAt rfl rfl rfl rfl ?_; clear F S; intro u w L hM S; replace HL := qNm HL hM; clear hM; have F := qFc HL S))
      go_roundw
      case rel =>
        rw [HL.out] at S
        have T := (S.sub (.cons _ (.refl _))).perm ((List.Perm.swap _ _ _).trans (List.Perm.cons _ (List.perm_append_singleton _ _).symm))
        exact ⟨k + 1, _, ps ++ [(.slice A' xs.length cap', ⟨r, c, xs⟩)], _, by omega, by go_num, rfl, Lib.hid (by rw [List.map_append, HP'.out]; rfl), Lib.hid (by rw [rowsM_add, cellsM_add]; rfl), T⟩
      case measure => simp [intOf]; omega
    · obtain rfl : k = n := by omega
      go_wp2
      go_ret
      rw [HL.out] at S
      have hp := HP.out
      rw [List.take_of_length_le (Nat.le_of_eq HN.out)] at hp
      refine ⟨_, ps, rfl, hp, ?_⟩
      unfold entsM
      rw [hpl]
      exact S
theorem C_l1OwnLayer (k : Int) (v : Value) (ms : List Mx) (w0 : World) (h : SeesMs w0 v ms) (hn : ms.length ≤ 1048576) (hx : ∀ m ∈ ms, m.xs.length ≤ 1048576) :
    Calls Tryz.prog 187 #[.agg #[.int .i64 k, v]] w0 fun e w => ∃ u ps, e = .returned (.agg #[.int .i64 k, u]) ∧ ps.map Prod.snd = ms ∧ St w0 w (entsM u ps) := by
  have H := Lib.hid h
  have HX := Lib.hid hx
  obtain ⟨A, cap, rfl, hcap, hmax, _⟩ := h
  clear hx
  obtain ⟨L, HL, S⟩ := st_start w0; have F : True := trivial
  go_enter Tryz.func187, Tryz.ntmps187
  go_wp2_with (first | (refine qbx HL S ?_; clear F S HL; intro g w L HL S F) | (refine qal HL S zLy ?_; clear F S HL; intro g w L HL S F) | (refine qst HL S 0 ?_; clear F S HL; intro w L HL S F) | (refine qst HL S 1 ?_; clear F S HL; intro w L HL S F) | (refine qst HL S 2 ?_; clear F S HL; intro w L HL S F) | (refine qst HL S 3 ?_; clear F S HL; intro w L HL S F)  | (go_at_call 196; refine (C_l1OwnMatrixList _ ms _ (H.out.at_ S) hn HX.out).mono ?_; rintro e w ⟨u, ps, rfl, hps, T0⟩; have HPS := Lib.hid hps; clear hps; obtain ⟨Au, cu, rfl, hcu, hmu⟩ := T0.sliceOf (p := 0) (show At _ 0 _ from rfl); obtain ⟨L, hM, T⟩ := st_name ((S.call T0).perm List.perm_append_comm); clear T0; clear F S; replace HL := qNm HL hM; clear hM; have S := T; clear T; have F := qFc HL S))
  ((try simp only [Exit.inBlock, Exit.then]); refine ret1 rfl (resCell S HL 1 rfl rfl (by kernel_rfl)) rfl ?_)
  exact ⟨_, ps, rfl, HPS.out, (by rw [HL.out] at S; exact S.sub (by repeat (first | exact .refl _ | exact List.nil_sublist _ | apply List.Sublist.cons_cons | apply List.Sublist.cons)))⟩
theorem C_l1OwnLayerList (v : Value) (ls : List Ly) (w0 : World) (h : SeesLs w0 v ls) (hn0 : ls.length ≤ 1048576) (hx : ∀ l ∈ ls, LySmall 1048576 l) :
    Calls Tryz.prog 157 #[v] w0 fun e w => ∃ u qs, e = .returned u ∧ qs.map lyO = ls ∧ St w0 w (entsL u qs) := by
  obtain ⟨A, cap, rfl, hcap, hmax, hA⟩ := h
  obtain ⟨n, hn⟩ : ∃ n, ls.length = n := ⟨_, rfl⟩
  rw [hn] at hcap hA hn0 ⊢
  unfold maxLen at hmax
  have HA := Lib.hid hA
  have HN := Lib.hid hn
  have HX := Lib.hid hx
  clear hA hn hx
  obtain ⟨L, HL, S⟩ := st_start w0; have F : True := trivial
  go_enter Tryz.func157, Tryz.ntmps157
  go_wp2_with (first | (refine wpList_empty rfl S _ rfl 51 Tryz.underlying66 infoLy ?_; clear F S; intro g w L hM S; replace HL := qNm HL hM; clear hM; have F := qFc HL S))
  go_loopw [4, 3] (fun i o wr => ∃ (k : Nat) (u : Value) (qs : LsO) (L : List Ent), k ≤ n ∧ i = .int .i64 k ∧ o = u ∧ Hid (qs.map lyO = ls.take k) ∧ Hid (L = .row 51 2 u k (cellsL qs) :: rowsL qs) ∧ St w0 wr L) (fun i _ _ => n - (intOf i).toNat)
  case atStart => exact ⟨0, _, [], L, Nat.zero_le _, rfl, rfl, Lib.hid rfl, HL, S⟩
  case round =>
    clear F HL S
    obtain ⟨k, u, qs, L, hk, rfl, rfl, HP, HL, S⟩ := hrel
    have F : True := trivial
    have hpl : qs.length = k := by
      have := congrArg List.length HP.out
      rw [List.length_map, List.length_take, HN.out] at this
      omega
    by_cases hlt : k < n
    · obtain ⟨b, off, rfl, hb, hc⟩ := HA.out (by omega)
      obtain ⟨l, hm⟩ := some_at HN.out hlt
      obtain ⟨kind, ms⟩ := l
      obtain ⟨x, c1, c2, hu⟩ := hc k _ hm
      obtain ⟨hm1, hm2⟩ := HX.out _ (List.mem_of_getElem? hm)
      have hp' := take_at hm
      rw [← HP.out] at hp'
      have HP' := Lib.hid hp'
      dsimp only at c1 c2 hu hm1 hm2
      have f1 := fun w' (S' : St w0 w' L) => (S'.below.cell (p := ⟨b, off + k * 2, none⟩) hb).trans c1
      have f2 := fun w' (S' : St w0 w' L) => (S'.below.cell (p := ⟨b, off + k * 2 + 1, none⟩) hb).trans c2
      have HU := Lib.hid hu
      obtain ⟨A', cap', rfl, hcap', hmax', _⟩ := hu
      have HM2 := Lib.hid hm2
      clear hc c1 c2 hp' hm hm2 hpl
      go_wp2_with (first | (go_at_call 187; refine (C_l1OwnLayer kind _ ms _ (HU.out.at_ S) hm1 HM2.out).mono ?_; rintro e w ⟨u, ps, rfl, hps, T0⟩; have HPS := Lib.hid hps; clear hps; obtain ⟨Au, cu, rfl, hcu, hmu⟩ := T0.sliceOf (p := 0) (show At _ 0 _ from rfl); obtain ⟨L, hM, T⟩ := st_name ((S.call T0).perm List.perm_append_comm); clear T0; clear F S; replace HL := qNm HL hM; clear hM; have S := T; clear T; have F := qFc HL S) | (refine wpList_litY rfl S _ _ rfl 51 Tryz.underlying66 infoLy _ _ rfl ?_; clear F S; intro g w L hM S; replace HL := qNm HL hM; clear hM; have F := qFc HL S) | (refine wpList_append_boxB rfl S _ _ _ rfl 51 _ 2 32 Tryz.underlying66 infoLy rfl (by omega) _ _ _ _ rfl qAt (by omega) _ _ _ _ _ _ rfl qAt rfl rfl rfl rfl ?_; clear F S; intro u w L hM S; replace HL := qNm HL hM; clear hM; have F := qFc HL S))
      go_roundw
      case rel =>
        rw [HL.out] at S
        have T := S.sub (.cons _ (.refl _))
        exact ⟨k + 1, _, qs ++ [(.slice Au ps.length cu, kind, ps)], _, by omega, by go_num, rfl, Lib.hid (by rw [List.map_append, HP'.out]; simp [lyO, HPS.out]), Lib.hid (by rw [rowsL_add, cellsL_add]; simp [rowsL, rowL, cellsL, cellL]), T⟩
      case measure => simp [intOf]; omega
    · obtain rfl : k = n := by omega
      go_wp2
      go_ret
      rw [HL.out] at S
      have hp := HP.out
      rw [List.take_of_length_le (Nat.le_of_eq HN.out)] at hp
      refine ⟨_, qs, rfl, hp, ?_⟩
      unfold entsL
      rw [hpl]
      exact S
end
section
def splitMx (m : Mx) (s : Int) : SMx := ⟨⟨m.r, m.c, rndTo s m.xs.length⟩, ⟨m.r, m.c, tab m.xs.length (subV m.xs (rndTo s m.xs.length))⟩⟩
def splitMs : List Mx → Int → List SMx × Int
  | [], s => ([], s)
  | m :: ms, s => (splitMx m s :: (splitMs ms (seedAt s m.xs.length)).1, (splitMs ms (seedAt s m.xs.length)).2)
def splitLy (l : Ly) (s : Int) : SLy := ⟨l.kind, (splitMs l.ws s).1⟩
def splitLs : List Ly → Int → List SLy × Int
  | [], s => ([], s)
  | l :: ls, s => (splitLy l s :: (splitLs ls (splitMs l.ws s).2).1, (splitLs ls (splitMs l.ws s).2).2)
def splitRes (ls : List Ly) (s : Int) : List SLy × Int := if decide (ls.length ≤ 4) && ls.all Ly.ok && seedOk s then splitLs ls s else ([], 0)
theorem splitRes_ok {ls : List Ly} {s : Int} (h4 : (decide (ls.length ≤ 4) && ls.all Ly.ok) = true) (hs : seedOk s = true) : splitRes ls s = splitLs ls s := by
  unfold splitRes
  rw [h4, hs]
  rfl
theorem splitRes_bad {ls : List Ly} {s : Int} (h4 : (decide (ls.length ≤ 4) && ls.all Ly.ok) = false) : splitRes ls s = ([], 0) := by
  unfold splitRes
  rw [h4, Bool.false_and]
  rfl
theorem splitRes_seed {ls : List Ly} {s : Int} (hs : seedOk s = false) : splitRes ls s = ([], 0) := by
  unfold splitRes
  rw [hs, Bool.and_false]
  rfl
theorem Ly.ok_ms {l : Ly} (h : l.ok = true) : l.ws.length ≤ 3 ∧ ∀ m ∈ l.ws, m.ok = true := by
  cases Ly.ok_case h with
  | dense w b hd =>
    simp only [denseFit, Bool.and_eq_true] at hd
    refine ⟨by simp, fun m hm => ?_⟩
    simp only [List.mem_cons, List.not_mem_nil, or_false] at hm
    rcases hm with rfl | rfl
    · exact hd.1.1.1
    · exact hd.1.1.2
  | ramp => exact ⟨by simp, fun m hm => by cases hm⟩
  | mix a b c hd =>
    simp only [mixFit, Bool.and_eq_true] at hd
    refine ⟨by simp, fun m hm => ?_⟩
    simp only [List.mem_cons, List.not_mem_nil, or_false] at hm
    rcases hm with rfl | rfl | rfl
    · exact hd.1.1.1.1.1
    · exact hd.1.1.1.1.2
    · exact hd.1.1.1.2
end
section
theorem from_all : ∀ (ls : List Ly) (r c : Int) (x : Int × Int), sidesFrom ls r c = some x → ls.all Ly.ok = true
  | [], _, _, _, _ => rfl
  | l :: ls, r, c, x, h => by
    unfold sidesFrom at h
    split at h
    · rename_i hok
      split at h
      · rw [List.all_cons, hok, from_all ls _ _ _ h]; rfl
      · cases h
    · cases h
end
end Go.Proofs.YtjgfjfjboimgdaaGreat
