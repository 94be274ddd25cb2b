/- Mem Ly LyP LyS Sl SlP SlS LyM SlM LyL JnA Ldb -/
import Derived.WalkKit
import Derived.WalkSpells
import Derived.WalkLawsBesides
import Derived.Deep.QuietTactic
import Derived.BigQuiet
import Derived.Deep.RegionHeld3
import Derived.Lib.Hide
import Derived.Deep.DeepCutAuto
import Derived.Deep.MidRow
import Derived.BigFrame
import Derived.Test.YtjgfjfjboimgdaaGreatY32
import Derived.Test.YtjgfjfjboimgdaaGreatY33
namespace Go.Proofs.YtjgfjfjboimgdaaGreat
set_option linter.unusedSimpArgs false
set_option linter.unusedVariables false
set_option linter.unusedSectionVars false
open Go Go.RowKit
set_option maxHeartbeats 8000000
set_option maxRecDepth 20000
section
theorem Sees.nil_ (w : World) (size : Nat) : Sees w size (.slice none 0 0) 0 [] := ⟨by simp, none, 0, rfl, Nat.le_refl _, by simp [maxLen], fun h => absurd h (by omega)⟩
theorem qQ6 {P : Prop} (h : P := by ((first | refine Sel.cons 0 rfl ?_ | refine Sel.cons 1 rfl ?_ | refine Sel.cons 2 rfl ?_ | refine Sel.cons 3 rfl ?_ | refine Sel.cons 4 rfl ?_ | refine Sel.cons 5 rfl ?_ | refine Sel.cons 6 rfl ?_ | refine Sel.cons 7 rfl ?_ | refine Sel.cons 8 rfl ?_ | refine Sel.cons 9 rfl ?_ | refine Sel.cons 10 rfl ?_ | refine Sel.cons 11 rfl ?_ | refine Sel.cons 12 rfl ?_ | refine Sel.cons 13 rfl ?_); (first | refine Sel.cons 0 rfl ?_ | refine Sel.cons 1 rfl ?_ | refine Sel.cons 2 rfl ?_ | refine Sel.cons 3 rfl ?_ | refine Sel.cons 4 rfl ?_ | refine Sel.cons 5 rfl ?_ | refine Sel.cons 6 rfl ?_ | refine Sel.cons 7 rfl ?_ | refine Sel.cons 8 rfl ?_ | refine Sel.cons 9 rfl ?_ | refine Sel.cons 10 rfl ?_ | refine Sel.cons 11 rfl ?_ | refine Sel.cons 12 rfl ?_ | refine Sel.cons 13 rfl ?_); (first | refine Sel.cons 0 rfl ?_ | refine Sel.cons 1 rfl ?_ | refine Sel.cons 2 rfl ?_ | refine Sel.cons 3 rfl ?_ | refine Sel.cons 4 rfl ?_ | refine Sel.cons 5 rfl ?_ | refine Sel.cons 6 rfl ?_ | refine Sel.cons 7 rfl ?_ | refine Sel.cons 8 rfl ?_ | refine Sel.cons 9 rfl ?_ | refine Sel.cons 10 rfl ?_ | refine Sel.cons 11 rfl ?_ | refine Sel.cons 12 rfl ?_ | refine Sel.cons 13 rfl ?_); (first | refine Sel.cons 0 rfl ?_ | refine Sel.cons 1 rfl ?_ | refine Sel.cons 2 rfl ?_ | refine Sel.cons 3 rfl ?_ | refine Sel.cons 4 rfl ?_ | refine Sel.cons 5 rfl ?_ | refine Sel.cons 6 rfl ?_ | refine Sel.cons 7 rfl ?_ | refine Sel.cons 8 rfl ?_ | refine Sel.cons 9 rfl ?_ | refine Sel.cons 10 rfl ?_ | refine Sel.cons 11 rfl ?_ | refine Sel.cons 12 rfl ?_ | refine Sel.cons 13 rfl ?_); (first | refine Sel.cons 0 rfl ?_ | refine Sel.cons 1 rfl ?_ | refine Sel.cons 2 rfl ?_ | refine Sel.cons 3 rfl ?_ | refine Sel.cons 4 rfl ?_ | refine Sel.cons 5 rfl ?_ | refine Sel.cons 6 rfl ?_ | refine Sel.cons 7 rfl ?_ | refine Sel.cons 8 rfl ?_ | refine Sel.cons 9 rfl ?_ | refine Sel.cons 10 rfl ?_ | refine Sel.cons 11 rfl ?_ | refine Sel.cons 12 rfl ?_ | refine Sel.cons 13 rfl ?_); (first | refine Sel.cons 0 rfl ?_ | refine Sel.cons 1 rfl ?_ | refine Sel.cons 2 rfl ?_ | refine Sel.cons 3 rfl ?_ | refine Sel.cons 4 rfl ?_ | refine Sel.cons 5 rfl ?_ | refine Sel.cons 6 rfl ?_ | refine Sel.cons 7 rfl ?_ | refine Sel.cons 8 rfl ?_ | refine Sel.cons 9 rfl ?_ | refine Sel.cons 10 rfl ?_ | refine Sel.cons 11 rfl ?_ | refine Sel.cons 12 rfl ?_ | refine Sel.cons 13 rfl ?_); exact Sel.tail (by (repeat (first | exact List.Sublist.refl _ | exact List.nil_sublist _ | apply List.Sublist.cons_cons | apply List.Sublist.cons))))) : P := h
end
section
theorem SeesMs.nil_ (w : World) : SeesMs w (.slice none 0 0) [] := ⟨none, 0, rfl, Nat.le_refl _, by simp [maxLen], fun h => absurd h (by simp)⟩
def cellL (q : Value × Int × MsO) : List Value := [.int .i64 q.2.1, q.1]
def rowL (q : Value × Int × MsO) : List Ent := entsM q.1 q.2.2
def lyO (q : Value × Int × MsO) : Ly := ⟨q.2.1, q.2.2.map Prod.snd⟩
def cellsL (qs : LsO) : List Value := qs.flatMap cellL
def rowsL (qs : LsO) : List Ent := qs.flatMap rowL
def entsL (u : Value) (qs : LsO) : List Ent := .row 51 2 u qs.length (cellsL qs) :: rowsL qs
theorem cellsL_len (qs : LsO) : (cellsL qs).length = qs.length * 2 := chunk_len cellL 2 (fun _ => rfl) qs
theorem cellsL_add (ps qs : LsO) : cellsL (ps ++ qs) = cellsL ps ++ cellsL qs := by simp [cellsL]
theorem rowsL_add (ps qs : LsO) : rowsL (ps ++ qs) = rowsL ps ++ rowsL qs := by simp [rowsL]
theorem sees_ls {w0 w : World} {L : List Ent} (S : St w0 w L) {u : Value} {qs : LsO} (h : ∀ e ∈ entsL u qs, e ∈ L) : SeesLs w u (qs.map lyO) := by
  obtain ⟨hl, A, cap, rfl, hc, hm, hA⟩ := Sees.own (S.own _ (h _ List.mem_cons_self))
  refine ⟨A, cap, by rw [List.length_map], by rw [List.length_map]; exact hc, hm, fun hn => ?_⟩
  rw [List.length_map] at hn
  obtain ⟨b, off, rfl, hb, h3⟩ := hA hn
  refine ⟨b, off, rfl, hb, fun q m hq => ?_⟩
  rw [List.getElem?_map] at hq
  obtain ⟨p, hp, rfl⟩ := Option.map_eq_some_iff.1 hq
  have e : ∀ j, j < 2 → (cellsL qs)[q * 2 + j]? = (cellL p)[j]? := fun j hj => by
    rw [cellsL, chunk_get cellL 2 (fun _ => rfl) qs q j hj, hp]; rfl
  have hr : ∀ e ∈ rowL p, e ∈ L := fun e he => h _ (List.mem_cons_of_mem _ (List.mem_flatMap.2 ⟨p, List.mem_of_getElem? hp, he⟩))
  refine ⟨p.1, ?_, ?_, sees_ms S hr⟩
  · have := h3 (q * 2) _ ((e 0 (by omega)).trans rfl)
    exact this
  · have := h3 (q * 2 + 1) _ ((e 1 (by omega)).trans rfl)
    rwa [← Nat.add_assoc] at this
end
section
def sidesFrom : List Ly → Int → Int → Option (Int × Int)
  | [], r, c => some (r, c)
  | l :: ls, r, c => if l.ok then (match l.sides r c with | some (r', c') => sidesFrom ls r' c' | none => none) else none
def netSides (ls : List Ly) (r c : Int) : Option (Int × Int) := if decide (ls.length ≤ 4) && sideOk r && sideOk c then sidesFrom ls r c else none
def sidesRes (x : Option (Int × Int)) : Value := match x with
  | some (r, c) => .tuple #[.int .i64 r, .int .i64 c, .bool true]
  | none => .tuple #[.int .i64 0, .int .i64 0, .bool false]
theorem Mx.ok_sides {m : Mx} (h : m.ok = true) : (1 ≤ m.r ∧ m.r ≤ 5) ∧ 1 ≤ m.c ∧ m.c ≤ 5 := by
  simp only [Mx.ok, Bool.and_eq_true, sideOk_iff] at h
  exact ⟨h.1.1.1, h.1.1.2⟩
theorem Ly.sides_ok {l : Ly} (h : l.ok = true) {r c r' c' : Int} (hr : 1 ≤ r ∧ r ≤ 5) (hc : 1 ≤ c ∧ c ≤ 5) (hs : l.sides r c = some (r', c')) : (1 ≤ r' ∧ r' ≤ 5) ∧ 1 ≤ c' ∧ c' ≤ 5 := by
  cases Ly.ok_case h with
  | dense w b hd =>
    simp only [Ly.sides] at hs
    simp only [denseFit, Bool.and_eq_true] at hd
    have := Mx.ok_sides hd.1.1.1
    split at hs
    · injection hs with hs
      injection hs with h1 h2
      subst h1; subst h2
      exact ⟨this.1, hc⟩
    · cases hs
  | ramp =>
    simp only [Ly.sides, Option.some.injEq, Prod.mk.injEq] at hs
    obtain ⟨rfl, rfl⟩ := hs
    exact ⟨hr, hc⟩
  | mix a b d hd =>
    simp only [Ly.sides] at hs
    split at hs
    · injection hs with hs
      injection hs with h1 h2
      subst h1; subst h2
      exact ⟨hr, hc⟩
    · cases hs
def prodNeed (r i c : Int) : Need := ⟨0, 1, r * c, r * i + i * c + r * c⟩
def Ly.needs (l : Ly) (r c : Int) : Need := match l.ws with
  | [] => ⟨0, 0, r * c, r * c⟩
  | [w, _] => prodNeed w.r r c
  | _ => ⟨r * r, 5, 3 * (r * c) + r * r + r * c + 2 * (r * r) + r, 3 * (r * c + c * c + r * c) + (r * c + c * r + r * r) + (r * r + r * c + r * c) + 4 * (r * r) + r⟩
def needsFrom : List Ly → Int → Int → Need
  | [], _, _ => Need.zero
  | l :: ls, r, c => match l.sides r c with
    | some (r', c') => (l.needs r c).add (needsFrom ls r' c')
    | none => Need.zero
def netNeeds (ls : List Ly) (r c : Int) : Need := match netSides ls r c with
  | some _ => needsFrom ls r c
  | none => Need.zero
end
section
theorem infoLy : (Tryz.prog.info? 51).map (fun i => (i.zero, i.size, i.bytes)) = some (some (.agg #[.int .i64 0, .slice none 0 0]), 2, 32) := by kernel_rfl
end
section
def cellSL (q : Value × Int × SMsO) : List Value := [.int .i64 q.2.1, q.1]
def rowSL (q : Value × Int × SMsO) : List Ent := entsSM q.1 q.2.2
def slyO (q : Value × Int × SMsO) : SLy := ⟨q.2.1, q.2.2.map smO⟩
def cellsSL (qs : SLsO) : List Value := qs.flatMap cellSL
def rowsSL (qs : SLsO) : List Ent := qs.flatMap rowSL
def entsSL (u : Value) (qs : SLsO) : List Ent := .row 105 2 u qs.length (cellsSL qs) :: rowsSL qs
theorem cellsSL_len (qs : SLsO) : (cellsSL qs).length = qs.length * 2 := chunk_len cellSL 2 (fun _ => rfl) qs
theorem cellsSL_add (ps qs : SLsO) : cellsSL (ps ++ qs) = cellsSL ps ++ cellsSL qs := by simp [cellsSL]
theorem rowsSL_add (ps qs : SLsO) : rowsSL (ps ++ qs) = rowsSL ps ++ rowsSL qs := by simp [rowsSL]
theorem sees_sls {w0 w : World} {L : List Ent} (S : St w0 w L) {u : Value} {qs : SLsO} (h : ∀ e ∈ entsSL u qs, e ∈ L) : SeesSLs w u (qs.map slyO) := by
  obtain ⟨hl, A, cap, rfl, hc, hm, hA⟩ := Sees.own (S.own _ (h _ List.mem_cons_self))
  refine ⟨A, cap, by rw [List.length_map], by rw [List.length_map]; exact hc, hm, fun hn => ?_⟩
  rw [List.length_map] at hn
  obtain ⟨b, off, rfl, hb, h3⟩ := hA hn
  refine ⟨b, off, rfl, hb, fun q m hq => ?_⟩
  rw [List.getElem?_map] at hq
  obtain ⟨p, hp, rfl⟩ := Option.map_eq_some_iff.1 hq
  have e : ∀ j, j < 2 → (cellsSL qs)[q * 2 + j]? = (cellSL p)[j]? := fun j hj => by
    rw [cellsSL, chunk_get cellSL 2 (fun _ => rfl) qs q j hj, hp]; rfl
  have hr : ∀ e ∈ rowSL p, e ∈ L := fun e he => h _ (List.mem_cons_of_mem _ (List.mem_flatMap.2 ⟨p, List.mem_of_getElem? hp, he⟩))
  refine ⟨p.1, ?_, ?_, sees_sms S hr⟩
  · have := h3 (q * 2) _ ((e 0 (by omega)).trans rfl)
    exact this
  · have := h3 (q * 2 + 1) _ ((e 1 (by omega)).trans rfl)
    rwa [← Nat.add_assoc] at this
end
section
def SLySmall (b : Nat) (l : SLy) : Prop := l.ws.length ≤ b ∧ ∀ m ∈ l.ws, SMSmall b m
end
section
theorem infoSLy : (Tryz.prog.info? 105).map (fun i => (i.zero, i.size, i.bytes)) = some (some (.agg #[.int .i64 0, .slice none 0 0]), 2, 32) := by kernel_rfl
theorem zSLy : (Tryz.prog.info? 105).bind (·.zero) = some (.agg #[.int .i64 0, .slice none 0 0]) := by kernel_rfl
end
section
section
variable {P : Program} {w0 w : World} {a : Act} {L : List Ent} {o : Oper} {ops : Array Oper} {rest : List Oper} {Q : Exit → Act → World → Prop}
theorem fil2 (C : Array Value) (hC : C.size = 2) (a b : Value) : Instr.fill (fun i => some (i * 2, 2)) C [(0, .agg #[a, b])] = some #[a, b] := by
  obtain ⟨l⟩ := C
  match l, hC with
  | [_, _], _ => simp [Instr.fill, Value.cells]
theorem wpList_litY (hgd : o.guard = none) (S : St w0 w L) (t : TypeId) (x : Operand) (ho : o.op = .buildSlice t 1 #[(0, x)])
    (e : TypeId) (ht : P.underlying t = some (.slice e)) {z : Value} {bytes : Nat} (hi : (P.info? e).map (fun i => (i.zero, i.size, i.bytes)) = some (some z, 2, bytes))
    (c0 c1 : Value) (hx : a.eval x = .agg #[c0, c1])
    (h : ∀ g w' M, M = .box g e [c0, c1] :: L → St w0 w' M → wpList P ops Q rest (a.put o.dst (.slice (some ⟨g, 0, none⟩) 1 1)) w') : wpList P ops Q (o :: rest) a w := by
  obtain ⟨i, hi0, hz0, hz1, hz2⟩ := info_parts hi
  refine Go.wpList_buildSlice hgd t e 1 _ ho #[c0, c1] i z ht hi0 hz0 (by rw [hz1]; omega) (by rw [hz1]; omega) ?_ (h _ _ _ rfl (S.new e _))
  rw [hz1, Array.toList_map]
  show Instr.fill _ _ [(0, a.eval x)] = _
  rw [hx]
  exact fil2 _ (by simp) _ _
end
end
section
theorem C_l1OwnSharedLayer (k : Int) (v : Value) (ms : List SMx) (w0 : World) (h : SeesSMs w0 v ms) (hn : ms.length ≤ 1048576) (hx : ∀ m ∈ ms, SMSmall 1048576 m) :
    Calls Tryz.prog 121 #[.agg #[.int .i64 k, v]] w0 fun e w => ∃ u ps, e = .returned (.agg #[.int .i64 k, u]) ∧ ps.map smO = ms ∧ St w0 w (entsSM u ps) := by
  have H := Lib.hid h
  have HX := Lib.hid hx
  obtain ⟨A, cap, rfl, hcap, hmax, _⟩ := h
  clear hx
  obtain ⟨L, HL, S⟩ := st_start w0; have F : True := trivial
  go_enter Tryz.func121, Tryz.ntmps121
  go_wp2_with (first | (refine qbx HL S ?_; clear F S HL; intro g w L HL S F) | (refine qal HL S zSLy ?_; clear F S HL; intro g w L HL S F) | (refine qst HL S 0 ?_; clear F S HL; intro w L HL S F) | (refine qst HL S 1 ?_; clear F S HL; intro w L HL S F) | (refine qst HL S 2 ?_; clear F S HL; intro w L HL S F) | (refine qst HL S 3 ?_; clear F S HL; intro w L HL S F)  | (go_at_call 41; refine (C_l1OwnSharedMatrixList _ ms _ (H.out.at_ S) hn HX.out).mono ?_; rintro e w ⟨u, ps, rfl, hps, T0⟩; have HPS := Lib.hid hps; clear hps; obtain ⟨Au, cu, rfl, hcu, hmu⟩ := T0.sliceOf (p := 0) (show At _ 0 _ from rfl); obtain ⟨L, hM, T⟩ := st_name ((S.call T0).perm List.perm_append_comm); clear T0; clear F S; replace HL := qNm HL hM; clear hM; have S := T; clear T; have F := qFc HL S))
  ((try simp only [Exit.inBlock, Exit.then]); refine ret1 rfl (resCell S HL 1 rfl rfl (by kernel_rfl)) rfl ?_)
  exact ⟨_, ps, rfl, HPS.out, (by rw [HL.out] at S; exact S.sub (by repeat (first | exact .refl _ | exact List.nil_sublist _ | apply List.Sublist.cons_cons | apply List.Sublist.cons)))⟩
theorem C_l1OwnSharedLayerList (v : Value) (ls : List SLy) (w0 : World) (h : SeesSLs w0 v ls) (hn0 : ls.length ≤ 1048576) (hx : ∀ l ∈ ls, SLySmall 1048576 l) :
    Calls Tryz.prog 77 #[v] w0 fun e w => ∃ u qs, e = .returned u ∧ qs.map slyO = ls ∧ St w0 w (entsSL u qs) := by
  obtain ⟨A, cap, rfl, hcap, hmax, hA⟩ := h
  obtain ⟨n, hn⟩ : ∃ n, ls.length = n := ⟨_, rfl⟩
  rw [hn] at hcap hA hn0 ⊢
  unfold maxLen at hmax
  have HA := Lib.hid hA
  have HN := Lib.hid hn
  have HX := Lib.hid hx
  clear hA hn hx
  obtain ⟨L, HL, S⟩ := st_start w0; have F : True := trivial
  go_enter Tryz.func77, Tryz.ntmps77
  go_wp2_with (first | (refine wpList_empty rfl S _ rfl 105 Tryz.underlying56 infoSLy ?_; clear F S; intro g w L hM S; replace HL := qNm HL hM; clear hM; have F := qFc HL S))
  go_loopw [4, 3] (fun i o wr => ∃ (k : Nat) (u : Value) (qs : SLsO) (L : List Ent), k ≤ n ∧ i = .int .i64 k ∧ o = u ∧ Hid (qs.map slyO = ls.take k) ∧ Hid (L = .row 105 2 u k (cellsSL qs) :: rowsSL qs) ∧ St w0 wr L) (fun i _ _ => n - (intOf i).toNat)
  case atStart => exact ⟨0, _, [], L, Nat.zero_le _, rfl, rfl, Lib.hid rfl, HL, S⟩
  case round =>
    clear F HL S
    obtain ⟨k, u, qs, L, hk, rfl, rfl, HP, HL, S⟩ := hrel
    have F : True := trivial
    have hpl : qs.length = k := by
      have := congrArg List.length HP.out
      rw [List.length_map, List.length_take, HN.out] at this
      omega
    by_cases hlt : k < n
    · obtain ⟨b, off, rfl, hb, hc⟩ := HA.out (by omega)
      obtain ⟨l, hm⟩ := some_at HN.out hlt
      obtain ⟨kind, ms⟩ := l
      obtain ⟨x, c1, c2, hu⟩ := hc k _ hm
      obtain ⟨hm1, hm2⟩ := HX.out _ (List.mem_of_getElem? hm)
      have hp' := take_at hm
      rw [← HP.out] at hp'
      have HP' := Lib.hid hp'
      dsimp only at c1 c2 hu hm1 hm2
      have f1 := fun w' (S' : St w0 w' L) => (S'.below.cell (p := ⟨b, off + k * 2, none⟩) hb).trans c1
      have f2 := fun w' (S' : St w0 w' L) => (S'.below.cell (p := ⟨b, off + k * 2 + 1, none⟩) hb).trans c2
      have HU := Lib.hid hu
      obtain ⟨A', cap', rfl, hcap', hmax', _⟩ := hu
      have HM2 := Lib.hid hm2
      clear hc c1 c2 hp' hm hm2 hpl
      go_wp2_with (first | (go_at_call 121; refine (C_l1OwnSharedLayer kind _ ms _ (HU.out.at_ S) hm1 HM2.out).mono ?_; rintro e w ⟨u, ps, rfl, hps, T0⟩; have HPS := Lib.hid hps; clear hps; obtain ⟨Au, cu, rfl, hcu, hmu⟩ := T0.sliceOf (p := 0) (show At _ 0 _ from rfl); obtain ⟨L, hM, T⟩ := st_name ((S.call T0).perm List.perm_append_comm); clear T0; clear F S; replace HL := qNm HL hM; clear hM; have S := T; clear T; have F := qFc HL S) | (refine wpList_litY rfl S _ _ rfl 105 Tryz.underlying56 infoSLy _ _ rfl ?_; clear F S; intro g w L hM S; replace HL := qNm HL hM; clear hM; have F := qFc HL S) | (refine wpList_append_boxB rfl S _ _ _ rfl 105 _ 2 32 Tryz.underlying56 infoSLy rfl (by omega) _ _ _ _ rfl qAt (by omega) _ _ _ _ _ _ rfl qAt rfl rfl rfl rfl ?_; clear F S; intro u w L hM S; replace HL := qNm HL hM; clear hM; have F := qFc HL S))
      go_roundw
      case rel =>
        rw [HL.out] at S
        have T := S.sub (.cons _ (.refl _))
        exact ⟨k + 1, _, qs ++ [(.slice Au ps.length cu, kind, ps)], _, by omega, by go_num, rfl, Lib.hid (by rw [List.map_append, HP'.out]; simp [slyO, HPS.out]), Lib.hid (by rw [rowsSL_add, cellsSL_add]; simp [rowsSL, rowSL, cellsSL, cellSL]), T⟩
      case measure => simp [intOf]; omega
    · obtain rfl : k = n := by omega
      go_wp2
      go_ret
      rw [HL.out] at S
      have hp := HP.out
      rw [List.take_of_length_le (Nat.le_of_eq HN.out)] at hp
      refine ⟨_, qs, rfl, hp, ?_⟩
      unfold entsSL
      rw [hpl]
      exact S
end
section
theorem Ly.ok_all {k : Int} {ms : List Mx} (h : (Ly.mk k ms).ok = true) : ms.all Mx.ok = true := by
  cases Ly.ok_case h with
  | dense w b hd =>
    simp only [denseFit, Bool.and_eq_true] at hd
    simp [hd.1.1.1, hd.1.1.2]
  | ramp => rfl
  | mix a b c hd =>
    simp only [mixFit, Bool.and_eq_true] at hd
    simp [hd.1.1.1.1.1, hd.1.1.1.1.2, hd.1.1.1.2]
theorem Ly.ok_not {k : Int} {ms : List Mx} {b : Bool} (hb : (Ly.mk k ms).ok = b) (h : ¬ (k = 1 ∧ ms.length = 2 ∨ k = 2 ∧ ms.length = 0 ∨ k = 3 ∧ ms.length = 3)) : b = false := by
  rw [← hb, ← Bool.not_eq_true]
  exact fun h' => h (Ly.ok_shape h')
theorem C_spec_LayerValid (v : Value) (kind : Int) (ms : List Mx) (b : Bool) (w0 : World) (h : SeesMs w0 v ms) (hb : (Ly.mk kind ms).ok = b) :
    Calls Tryz.prog 123 #[.agg #[.int .i64 kind, v]] w0 fun e w' => e = .returned (.bool b) ∧ Below w0.heap.size w0 w' := by
  obtain ⟨A, cap, rfl, hcap, hmax, hA⟩ := h
  obtain ⟨n, hn⟩ : ∃ n, ms.length = n := ⟨_, rfl⟩
  obtain ⟨p, hp, hall, hbad, hnone⟩ := first_bad Mx.ok ms
  rw [hn] at hcap hA hp hnone ⊢
  have HN := Lib.hid hn
  have HA := Lib.hid hA
  have HALL := Lib.hid hall
  have HBAD := Lib.hid hbad
  have HNONE := Lib.hid hnone
  have HB := Lib.hid hb
  clear hA hn hall hbad hnone hb
  unfold maxLen at hmax
  obtain ⟨L, HL, S⟩ := st_start w0; have F : True := trivial
  go_enter Tryz.func123, Tryz.ntmps123
  go_upto_region 1 with (first | (refine qbx HL S ?_; clear F S HL; intro g w L HL S F))
  go_wp2
  go_loopw [3] (fun i wr => ∃ (j : Nat), j ≤ p ∧ i = .int .i64 j ∧ St w0 wr L) (fun i _ => n - (intOf i).toNat)
  case atStart => exact ⟨0, Nat.zero_le _, rfl, S⟩
  case round =>
    clear S
    obtain ⟨j, hj, rfl, S⟩ := hrel
    by_cases hlt : j < n
    · obtain ⟨bl, off, rfl, hbl, hc⟩ := HA.out (by omega)
      obtain ⟨m, hm⟩ := some_at HN.out hlt
      obtain ⟨r, c, xs⟩ := m
      obtain ⟨u, c1, c2, c3, hu⟩ := hc j _ hm
      dsimp only at c1 c2 c3 hu
      have HU := Lib.hid hu
      obtain ⟨_, A', cap', rfl, hcap', hmax', _⟩ := hu
      have f1 := fun w' (S' : St w0 w' L) => (S'.below.cell (p := ⟨bl, off + j * 3, none⟩) hbl).trans c1
      have f2 := fun w' (S' : St w0 w' L) => (S'.below.cell (p := ⟨bl, off + j * 3 + 1, none⟩) hbl).trans c2
      have f3 := fun w' (S' : St w0 w' L) => (S'.below.cell (p := ⟨bl, off + j * 3 + 2, none⟩) hbl).trans c3
      have HMM := Lib.hid hm
      clear hc c1 c2 c3 hm
      by_cases hjp : j < p
      · have HO := Lib.hid (HALL.out j _ hjp HMM.out)
        go_wp2_with (first | (go_at_call 95; refine qGr S (C_spec_MatrixValid _ _ _ _ _ _ (by exact HU.out.at_ S) (by exact HO.out)) ?_; clear S; intro w S))
        go_roundw
        case rel => exact ⟨j + 1, by omega, by go_num, S⟩
        case measure => simp [intOf]; omega
      · obtain rfl : j = p := by omega
        obtain ⟨hg, hg2⟩ := HBAD.out _ HMM.out
        obtain rfl : b = false := by
          rw [← HB.out, ← Bool.not_eq_true]
          intro h
          rw [Ly.ok_all h] at hg2
          cases hg2
        have HO := Lib.hid hg
        clear hg hg2
        go_wp2_with (first | (go_at_call 95; refine qGr S (C_spec_MatrixValid _ _ _ _ _ _ (by exact HU.out.at_ S) (by exact HO.out)) ?_; clear S; intro w S))
        go_ret
        exact ⟨rfl, S.below⟩
    · obtain rfl : j = n := by omega
      obtain rfl : p = j := by omega
      have hallm := HNONE.out rfl
      clear HNONE HBAD HALL hj hp hlt
      have hb := HB.out
      by_cases k1 : kind = 1
      · subst k1
        by_cases hl : p = 2
        · subst hl
          obtain ⟨w, o, rfl⟩ := len2 HN.out
          obtain ⟨bl, off, rfl, hbl, hc⟩ := HA.out (by omega)
          obtain ⟨r, c, xs⟩ := w
          obtain ⟨r', c', ys⟩ := o
          obtain ⟨u, a1, a2, a3, hu⟩ := hc 0 _ rfl
          obtain ⟨u', d1, d2, d3, hu'⟩ := hc 1 _ rfl
          rw [Nat.zero_mul, Nat.add_zero] at a1 a2 a3
          rw [Nat.one_mul] at d1 d2 d3
          dsimp only at a1 a2 a3 hu d1 d2 d3 hu'
          simp only [List.all_cons, List.all_nil, Bool.and_true, Bool.and_eq_true] at hallm
          have hfit : (decide (c' = 1) && decide (r' = r)) = b := by rw [← hb]; simp [Ly.ok, denseFit, hallm.1, hallm.2]
          have q1 := fun w' (S' : St w0 w' L) => (S'.below.cell (p := ⟨bl, off, none⟩) hbl).trans a1
          have q2 := fun w' (S' : St w0 w' L) => (S'.below.cell (p := ⟨bl, off + 1, none⟩) hbl).trans a2
          have q4 := fun w' (S' : St w0 w' L) => (S'.below.cell (p := ⟨bl, off + 3, none⟩) hbl).trans d1
          have q5 := fun w' (S' : St w0 w' L) => (S'.below.cell (p := ⟨bl, off + 3 + 1, none⟩) hbl).trans d2
          clear hc HA hallm hb HB a1 a2 a3 d1 d2 d3 hu hu' HN
          go_wp2
          by_cases h1 : c' = 1
          · by_cases h2 : r' = r
            · subst h1 h2
              obtain rfl : b = true := by rw [← hfit]; simp
              clear hfit
              have HL0 := HL; have F0 := F; refine wp_region_tree (S := fun w' => St w0 w' L) (qcs 0 26 .fin) (by kernel_rfl) (by kernel_rfl) (by kernel_rfl) (by intro c a d v w h; cases d <;> exact h) ?_; dsimp only [qcs, Nat.reduceAdd]; replace S := S.drew
              repeat (first | refine qCa ?_ | refine qAn ?_ | refine qSk ?_ | refine qAs ?_ | (refine tree_act rfl rfl ?_ tree_stop; intro K hK; go_wp2_with (first | fail); (refine qKo hK ?_; clear hK K)))
              refine tree_fin ?_
              go_wp2
              go_ret
              exact ⟨rfl, S.below⟩
            · subst h1
              obtain rfl : b = false := by rw [← hfit]; simp [h2]
              have e2 := bne_of h2
              clear hfit
              have HL0 := HL; have F0 := F; refine wp_region_tree (S := fun w' => St w0 w' L) (qcs 0 26 .fin) (by kernel_rfl) (by kernel_rfl) (by kernel_rfl) (by intro c a d v w h; cases d <;> exact h) ?_; dsimp only [qcs, Nat.reduceAdd]; replace S := S.drew
              repeat (first | refine qCa ?_ | refine qAn ?_ | refine qSk ?_ | refine qAs ?_ | (refine tree_act rfl rfl ?_ tree_stop; intro K hK; go_wp2_with (first | fail); (refine qKo hK ?_; clear hK K)))
              refine tree_fin ?_
              go_wp2
              go_ret
              exact ⟨rfl, S.below⟩
          · obtain rfl : b = false := by rw [← hfit]; simp [h1]
            have e2 := bne_of h1
            clear hfit
            have HL0 := HL; have F0 := F; refine wp_region_tree (S := fun w' => St w0 w' L) (qcs 0 26 .fin) (by kernel_rfl) (by kernel_rfl) (by kernel_rfl) (by intro c a d v w h; cases d <;> exact h) ?_; dsimp only [qcs, Nat.reduceAdd]; replace S := S.drew
            repeat (first | refine qCa ?_ | refine qAn ?_ | refine qSk ?_ | refine qAs ?_ | (refine tree_act rfl rfl ?_ tree_stop; intro K hK; go_wp2_with (first | fail); (refine qKo hK ?_; clear hK K)))
            refine tree_fin ?_
            go_wp2
            go_ret
            exact ⟨rfl, S.below⟩
        · obtain rfl := Ly.ok_not hb (by rw [HN.out]; omega)
          have e2 := bne_of (a := (p : Int)) (b := 2) (by omega)
          clear hallm hb HB
          go_wp2
          have HL0 := HL; have F0 := F; refine wp_region_tree (S := fun w' => St w0 w' L) (qcs 0 26 .fin) (by kernel_rfl) (by kernel_rfl) (by kernel_rfl) (by intro c a d v w h; cases d <;> exact h) ?_; dsimp only [qcs, Nat.reduceAdd]; replace S := S.drew
          repeat (first | refine qCa ?_ | refine qAn ?_ | refine qSk ?_ | refine qAs ?_ | (refine tree_act rfl rfl ?_ tree_stop; intro K hK; go_wp2_with (first | fail); (refine qKo hK ?_; clear hK K)))
          refine tree_fin ?_
          go_wp2
          go_ret
          exact ⟨rfl, S.below⟩
      by_cases k2 : kind = 2
      · subst k2
        by_cases hl : p = 0
        · subst hl
          obtain rfl := List.length_eq_zero_iff.1 HN.out
          obtain rfl : b = true := by rw [← hb]; rfl
          clear hallm hb HB
          go_wp2
          go_ret
          exact ⟨rfl, S.below⟩
        · obtain rfl := Ly.ok_not hb (by rw [HN.out]; omega)
          have e2 := bne_of (a := (p : Int)) (b := 0) (by omega)
          clear hallm hb HB
          go_wp2
          go_ret
          exact ⟨rfl, S.below⟩
      by_cases k3 : kind = 3
      · subst k3
        by_cases hl : p = 3
        · subst hl
          obtain ⟨x, y, z, rfl⟩ := len3 HN.out
          obtain ⟨bl, off, rfl, hbl, hc⟩ := HA.out (by omega)
          obtain ⟨r, c, xs⟩ := x
          obtain ⟨r', c', ys⟩ := y
          obtain ⟨r2, c2, zs⟩ := z
          obtain ⟨u, a1, a2, a3, hu⟩ := hc 0 _ rfl
          obtain ⟨u', d1, d2, d3, hu'⟩ := hc 1 _ rfl
          obtain ⟨u2, g1, g2, g3, hu2⟩ := hc 2 _ rfl
          rw [Nat.zero_mul, Nat.add_zero] at a1 a2 a3
          rw [Nat.one_mul] at d1 d2 d3
          rw [show 2 * 3 = 6 from rfl] at g1 g2 g3
          dsimp only at a1 a2 a3 hu d1 d2 d3 hu' g1 g2 g3 hu2
          simp only [List.all_cons, List.all_nil, Bool.and_true, Bool.and_eq_true] at hallm
          obtain ⟨o1, o2, o3⟩ := hallm
          have hfit : (decide (r = c) && likeMx ⟨r, c, xs⟩ ⟨r', c', ys⟩ && likeMx ⟨r, c, xs⟩ ⟨r2, c2, zs⟩) = b := by
            rw [← hb]; simp [Ly.ok, mixFit, likeMx, o1, o2, o3]
          have HU := Lib.hid hu
          have HU' := Lib.hid hu'
          have HU2 := Lib.hid hu2
          obtain ⟨_, A1, cap1, rfl, hcap1, hmax1, _⟩ := hu
          obtain ⟨_, A2, cap2, rfl, hcap2, hmax2, _⟩ := hu'
          obtain ⟨_, A3, cap3, rfl, hcap3, hmax3, _⟩ := hu2
          have q1 := fun w' (S' : St w0 w' L) => (S'.below.cell (p := ⟨bl, off, none⟩) hbl).trans a1
          have q2 := fun w' (S' : St w0 w' L) => (S'.below.cell (p := ⟨bl, off + 1, none⟩) hbl).trans a2
          have q3 := fun w' (S' : St w0 w' L) => (S'.below.cell (p := ⟨bl, off + 2, none⟩) hbl).trans a3
          have q4 := fun w' (S' : St w0 w' L) => (S'.below.cell (p := ⟨bl, off + 3, none⟩) hbl).trans d1
          have q5 := fun w' (S' : St w0 w' L) => (S'.below.cell (p := ⟨bl, off + 3 + 1, none⟩) hbl).trans d2
          have q6 := fun w' (S' : St w0 w' L) => (S'.below.cell (p := ⟨bl, off + 3 + 2, none⟩) hbl).trans d3
          have q7 := fun w' (S' : St w0 w' L) => (S'.below.cell (p := ⟨bl, off + 6, none⟩) hbl).trans g1
          have q8 := fun w' (S' : St w0 w' L) => (S'.below.cell (p := ⟨bl, off + 6 + 1, none⟩) hbl).trans g2
          have q9 := fun w' (S' : St w0 w' L) => (S'.below.cell (p := ⟨bl, off + 6 + 2, none⟩) hbl).trans g3
          clear hc HA hb HB a1 a2 a3 d1 d2 d3 g1 g2 g3 HN o1 o2 o3
          go_wp2
          by_cases h1 : r = c
          · subst h1
            obtain ⟨e1, hl1⟩ : ∃ e, likeMx ⟨r, r, xs⟩ ⟨r', c', ys⟩ = e := ⟨_, rfl⟩
            obtain ⟨e2, hl2⟩ : ∃ e, likeMx ⟨r, r, xs⟩ ⟨r2, c2, zs⟩ = e := ⟨_, rfl⟩
            rw [hl1, hl2] at hfit
            have HL1 := Lib.hid hl1
            have HL2 := Lib.hid hl2
            clear hl1 hl2
            cases e1 with
            | true =>
              obtain rfl : e2 = b := by rw [← hfit]; simp
              clear hfit
              have HL0 := HL; have F0 := F; refine wp_region_tree (S := fun w' => St w0 w' L) (qcs 0 26 (.act 26 (qcs 27 10 (.act 37 (.calm 38 (.calm 39 .fin)) .stop)) .stop)) (by kernel_rfl) (by kernel_rfl) (by kernel_rfl) (by intro c a d v w h; cases d <;> exact h) ?_; dsimp only [qcs, Nat.reduceAdd]; replace S := S.drew
              repeat (first | refine qCa ?_ | refine qAn ?_ | refine qSk ?_ | refine qAs ?_ | (refine tree_act rfl rfl ?_ tree_stop; intro K hK; go_wp2_with (first | (go_at_call 89; refine qGr S (C_spec_l3Like _ _ _ _ _ _ _ _ _ _ (by exact HU.out.at_ S) (by first | exact HU'.out.at_ S | exact HU2.out.at_ S) (by first | exact HL1.out | exact HL2.out)) ?_; clear S; intro w S)); (refine qKo hK ?_; clear hK K)))
              refine tree_fin ?_
              go_wp2
              go_ret
              exact ⟨rfl, S.below⟩
            | false =>
              obtain rfl : b = false := by rw [← hfit]; simp
              clear hfit
              have HL0 := HL; have F0 := F; refine wp_region_tree (S := fun w' => St w0 w' L) (qcs 0 26 (.act 26 (qcs 27 10 (.act 37 (.calm 38 (.calm 39 .fin)) .stop)) .stop)) (by kernel_rfl) (by kernel_rfl) (by kernel_rfl) (by intro c a d v w h; cases d <;> exact h) ?_; dsimp only [qcs, Nat.reduceAdd]; replace S := S.drew
              repeat (first | refine qCa ?_ | refine qAn ?_ | refine qSk ?_ | refine qAs ?_ | (refine tree_act rfl rfl ?_ tree_stop; intro K hK; go_wp2_with (first | (go_at_call 89; refine qGr S (C_spec_l3Like _ _ _ _ _ _ _ _ _ _ (by exact HU.out.at_ S) (by exact HU'.out.at_ S) (by exact HL1.out)) ?_; clear S; intro w S)); (refine qKo hK ?_; clear hK K)))
              refine tree_fin ?_
              go_wp2
              go_ret
              exact ⟨rfl, S.below⟩
          · obtain rfl : b = false := by rw [← hfit]; simp [h1]
            have e2 := bne_of h1
            clear hfit
            have HL0 := HL; have F0 := F; refine wp_region_tree (S := fun w' => St w0 w' L) (qcs 0 26 (.act 26 (qcs 27 10 (.act 37 (.calm 38 (.calm 39 .fin)) .stop)) .stop)) (by kernel_rfl) (by kernel_rfl) (by kernel_rfl) (by intro c a d v w h; cases d <;> exact h) ?_; dsimp only [qcs, Nat.reduceAdd]; replace S := S.drew
            repeat (first | refine qCa ?_ | refine qAn ?_ | refine qSk ?_ | refine qAs ?_ | (refine tree_act rfl rfl ?_ tree_stop; intro K hK; go_wp2_with (first | fail); (refine qKo hK ?_; clear hK K)))
            refine tree_fin ?_
            go_wp2
            go_ret
            exact ⟨rfl, S.below⟩
        · obtain rfl := Ly.ok_not hb (by rw [HN.out]; omega)
          have e2 := bne_of (a := (p : Int)) (b := 3) (by omega)
          clear hallm hb HB
          go_wp2
          have HL0 := HL; have F0 := F; refine wp_region_tree (S := fun w' => St w0 w' L) (qcs 0 26 (.act 26 (qcs 27 10 (.act 37 (.calm 38 (.calm 39 .fin)) .stop)) .stop)) (by kernel_rfl) (by kernel_rfl) (by kernel_rfl) (by intro c a d v w h; cases d <;> exact h) ?_; dsimp only [qcs, Nat.reduceAdd]; replace S := S.drew
          repeat (first | refine qCa ?_ | refine qAn ?_ | refine qSk ?_ | refine qAs ?_ | (refine tree_act rfl rfl ?_ tree_stop; intro K hK; go_wp2_with (first | fail); (refine qKo hK ?_; clear hK K)))
          refine tree_fin ?_
          go_wp2
          go_ret
          exact ⟨rfl, S.below⟩
      obtain rfl := Ly.ok_not hb (by omega)
      have e1 := bne_of k1
      have e2 := bne_of k2
      have e3 := bne_of k3
      clear hallm hb HB
      go_wp2
      go_ret
      exact ⟨rfl, S.below⟩
end
section
def joinLy (l : SLy) : Ly := ⟨l.kind, l.ws.map joinMx⟩
def joinRes (ls : List SLy) : Bool × List Ly := if decide (ls.length ≤ 4) && (ls.map joinLy).all Ly.ok then (true, ls.map joinLy) else (false, [])
theorem joinRes_many {ls : List SLy} (h : ¬ ls.length ≤ 4) : joinRes ls = (false, []) := by
  unfold joinRes
  rw [decide_eq_false h, Bool.false_and]
  rfl
theorem joinRes_bad {ls : List SLy} {j : Nat} {l : SLy} (h : ls[j]? = some l) (hb : (joinLy l).ok = false) : joinRes ls = (false, []) := by
  unfold joinRes
  have : (ls.map joinLy).all Ly.ok = false := by
    cases hc : (ls.map joinLy).all Ly.ok with
    | false => rfl
    | true =>
      have := List.all_eq_true.1 hc (joinLy l) (List.mem_map_of_mem (List.mem_of_getElem? h))
      rw [hb] at this
      cases this
  rw [this, Bool.and_false]
  rfl
theorem joinRes_ok {ls : List SLy} (h4 : ls.length ≤ 4) (h : ∀ q l, q < ls.length → ls[q]? = some l → (joinLy l).ok = true) : joinRes ls = (true, ls.map joinLy) := by
  unfold joinRes
  have : (ls.map joinLy).all Ly.ok = true := by
    rw [List.all_eq_true]
    intro x hx
    obtain ⟨l, hl, rfl⟩ := List.mem_map.1 hx
    obtain ⟨q, hq⟩ := List.mem_iff_getElem?.1 hl
    exact h q l (List.getElem?_eq_some_iff.1 hq).1 hq
  rw [this, decide_eq_true h4]
  rfl
theorem C_impl_LayerValid (v : Value) (l : Ly) (b : Bool) (wb w0 : World) (hbw : Below wb.heap.size wb w0) (h : SeesMs wb v l.ws) (hb : l.ok = b) :
    Calls Tryz.prog 84 #[.agg #[.int .i64 l.kind, v]] w0 fun e w' => e = .returned (.bool b) ∧ Below w0.heap.size w0 w' := by
  have H := Lib.hid h
  obtain ⟨A, cap, rfl, hcap, hmax, _⟩ := h
  obtain ⟨L, HL, S⟩ := st_start w0; have F : True := trivial
  go_enter Tryz.func84, Tryz.ntmps84
  go_wp2_with (first | (refine qbx HL S ?_; clear F S HL; intro g w L HL S F) | (go_at_call 69; refine (C_layerOf _ l b wb _ (hbw.trans (S.below.mono hbw.size)) H.out hb).mono ?_; rintro e w ⟨x, rfl, hx0, hb⟩; clear hx0; replace S := S.grow hb; clear hb))
  go_ret
  exact ⟨rfl, S.below⟩
end
section
section
variable {P : Program} {w0 w : World} {a : Act} {L : List Ent} {o : Oper} {ops : Array Oper} {rest : List Oper} {K : Act → World → Prop} {Q : Exit → Act → World → Prop}
theorem qLb3 (S : St w0 w L) {c0 c1 c2 : Value} {ty : TypeId} {x : Operand} {p g : Nat} {t : TypeId} {cs : List Value} {i : Nat} (h : wpList P ops Q rest (a.put o.dst (.agg ([c0, c1, c2] : List Value).toArray)) w) (hw : Region.wanted o (yielded ops a.tmps) = true := by exact rfl) (ho : o.op = .load ty x := by exact rfl) (hx : a.eval x = .pointer (some ⟨g, i, none⟩) := by exact rfl) (hp : At L p (.box g t cs) := by exact qAt)
    (hk : structAt P ty 3 = true := by decide +kernel) (hvs : (cs.drop i).take 3 = [c0, c1, c2] := by exact rfl) : wpList P ops Q (o :: rest) a w := wpList_load_box hw S ty x ho p g t cs i 3 hp hx [c0, c1, c2] rfl hk hvs h
end
end
end Go.Proofs.YtjgfjfjboimgdaaGreat
