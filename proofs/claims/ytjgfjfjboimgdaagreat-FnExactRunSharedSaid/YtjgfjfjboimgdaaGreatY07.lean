/- MatT Tri MulV -/
import Derived.Test.YtjgfjfjboimgdaaGreatY06
namespace Go.Proofs.YtjgfjfjboimgdaaGreat
set_option linter.unusedSimpArgs false
set_option linter.unusedVariables false
set_option linter.unusedSectionVars false
open Go Go.RowKit
set_option maxHeartbeats 8000000
set_option maxRecDepth 20000
section
section
variable {P : Program} {w0 w : World} {a : Act} {L : List Ent} {o : Oper} {K : Act → World → Prop} {Q : Exit → Act → World → Prop}
theorem wp_lit1 (S : St w0 w L) (t : TypeId) (x : Operand) (ho : o.op = .buildSlice t 1 #[(0, x)])
    (e : TypeId) (ht : P.underlying t = some (.slice e)) {z : Value} {bytes : Nat} (hi : (P.info? e).map (fun i => (i.zero, i.size, i.bytes)) = some (some z, 1, bytes))
    (c : Int) (hx : a.eval x = .int .i64 c)
    (h : ∀ g w' M, M = .box g e [.int .i64 c] :: L → St w0 w' M → K (a.put o.dst (.slice (some ⟨g, 0, none⟩) 1 1)) w') : o.wp P a w K Q := by
  obtain ⟨i, hi0, hz0, hz1, hz2⟩ := info_parts hi
  refine Go.wp_buildSlice t e 1 _ ho #[.int .i64 c] i z ht hi0 hz0 (by rw [hz1]; omega) (by rw [hz1]; omega) ?_ (h _ _ _ rfl (S.new e _))
  rw [hz1, Array.toList_map]
  show Instr.fill _ _ [(0, a.eval x)] = _
  rw [hx]
  show Instr.fill _ _ (([Value.int .i64 c].zipIdx 0).map fun x => (x.2, x.1)) = _
  exact Great.fill_flat _ _ (fun v hv => by rw [List.mem_singleton.1 hv]; rfl) (by simp)
theorem St.nilMx (S : St w0 w L) (t : TypeId) : St w0 w [.row t 1 (.slice none 0 0) 0 []] := (S.nilRow t 1).sub (.cons_cons _ (List.nil_sublist _))
theorem St.rowAt {p size n : Nat} {t : TypeId} {v : Value} {xs : List Value} (S : St w0 w L) (h : At L p (.row t size v n xs)) (hn : 0 < n) : ∃ g cap, v = .slice (some ⟨g, 0, none⟩) n cap ∧ n ≤ cap ∧ cap ≤ maxLen := by
  rcases S.rowShape h with ⟨_, h0⟩ | h
  · omega
  · exact h
end
theorem wrap_nat {x : Int} {n : Nat} (h : x = n) (hn : n ≤ 1000000000) : IntKind.i64.wrap x = (n : Int) := by
  rw [h, IntKind.wrap_i64]; omega
theorem C_spec_TurnMatrix (r c : Int) (xs : List Int) (v : Value) (t : Mx) (w0 : World) (h : Ints w0 v xs) (hn : xs.length ≤ 1048576) (ht : turnMx ⟨r, c, xs⟩ = t) :
    Calls Tryz.prog 91 #[.agg #[.int .i64 r, .int .i64 c, v]] w0 (MakesMx w0 t.r t.c t.xs) := by
  have CO := fun w h => C_l1OwnMatrix r c xs v w h hn
  unfold MakesMx at CO ⊢
  have H := Lib.hid h
  obtain ⟨_, A, cap, rfl, hcap, hmax, _⟩ := h
  cases hv : (Mx.mk r c xs).ok with
  | false =>
    obtain rfl : t = Mx.zero := ht ▸ turnMx_not hv
    clear ht
    obtain ⟨L, HL, S⟩ := st_start w0; have F : True := trivial
    go_enter Tryz.func91, Tryz.ntmps91
    go_wp2_with (first | (refine qbx HL S ?_; clear F S HL; intro g w L HL S F) | (refine qal HL S zMx ?_; clear F S HL; intro g w L HL S F) | (refine qst HL S 0 ?_; clear F S HL; intro w L HL S F) | (refine qst HL S 1 ?_; clear F S HL; intro w L HL S F) | (refine qst HL S 2 ?_; clear F S HL; intro w L HL S F) | (refine qst HL S 3 ?_; clear F S HL; intro w L HL S F)  | (go_at_call 88; refine (CO _ (H.out.at_ S)).mono ?_; rintro e w ⟨u, rfl, T0⟩; have hX := qcl HL S T0; clear F S HL T0; obtain ⟨L, HL, S, F⟩ := hX; obtain ⟨A', cap', rfl, hcap', hmax'⟩ := qSl HL S 0) | (go_at_call 95; refine qGr S (C_spec_MatrixValid _ _ _ _ _ _ (by exact (Sees.row S qAt).ints) (by exact hv)) ?_; clear S; intro w S))
    ((try simp only [Exit.inBlock, Exit.then]); refine ret1 rfl (resCell S HL 1 rfl rfl (by kernel_rfl)) rfl ?_)
    exact ⟨_, rfl, S.nilMx _⟩
  | true =>
    obtain ⟨R, C, N, e0, r1, r2, c1, c2, hRC, hN, hN2, hall⟩ := Mx.ok_nat hv
    obtain ⟨rfl, rfl⟩ : r = R ∧ c = C := by injection e0 with e1 e2 _; exact ⟨e1, e2⟩
    clear e0
    rw [turnMx_ok hv] at ht
    subst ht
    have HV := Lib.hid hv
    clear hv
    dsimp only at hN hall ⊢
    clear hall
    have hN0 : 0 < N := by rw [← hRC]; exact Nat.mul_pos (by omega) (by omega)
    have HRC := Lib.hid hRC
    have HN := Lib.hid hN
    clear hRC hN
    obtain ⟨L, HL, S⟩ := st_start w0; have F : True := trivial
    go_enter Tryz.func91, Tryz.ntmps91
    go_upto_region 1 with (first | (refine qbx HL S ?_; clear F S HL; intro gm w L HL S F) | (refine qal HL S zMx ?_; clear F S HL; intro gr w L HL S F))
    go_upto_region 5 with (first | (refine qal HL S zMx ?_; clear F S HL; intro g3 w L HL S F) | (refine qst HL S 0 ?_; clear F S HL; intro w L HL S F) | (refine qst HL S 1 ?_; clear F S HL; intro w L HL S F) | (refine qst HL S 2 ?_; clear F S HL; intro w L HL S F) | (refine qst HL S 3 ?_; clear F S HL; intro w L HL S F) | (go_at_call 88; refine (CO _ (H.out.at_ S)).mono ?_; rintro e w ⟨u, rfl, T0⟩; have hX := qcl HL S T0; clear F S HL T0; obtain ⟨L, HL, S, F⟩ := hX; obtain ⟨A', cap', rfl, hcap', hmax'⟩ := qSl HL S 0) | (go_at_call 95; refine qGr S (C_spec_MatrixValid _ _ _ _ _ _ (by exact (Sees.row S qAt).ints) (by exact HV.out)) ?_; clear S; intro w S))
    obtain ⟨gv, cv, ev, hcv, hmv⟩ := S.rowAt (p := 1) (atOf HL rfl) (by rw [HN.out]; exact hN0)
    obtain ⟨rfl, rfl⟩ : A' = some ⟨gv, 0, none⟩ ∧ cap' = cv := by injection ev with e1 _ e3; exact ⟨e1, e3⟩
    clear ev
    rw [HL.out] at S
    replace S := S.nilRow 3 1
    clear HL F CO
    obtain ⟨L, hM, T⟩ := st_name S; clear S; have S := T; clear T; have HL := Lib.hid hM; clear hM; have F := qFc HL S
    go_wp2
    go_loopw [4] (fun i wr => ∃ (j : Nat) (A0 : Option Addr) (c0 : Nat) (L : List Ent), j ≤ C ∧ i = .int .i64 j ∧ Hid (L = [.row 3 1 (.slice A0 (j * R) c0) (j * R) (ints (tab (j * R) (turnV R C xs))), .box g3 30 [.int .i64 C, .int .i64 R, .slice A0 (j * R) c0], .row 3 1 (.slice (some ⟨gv, 0, none⟩) xs.length cap') xs.length (ints xs), .box gr 30 [.int .i64 0, .int .i64 0, .slice none 0 0], .box gm 30 [.int .i64 R, .int .i64 C, .slice (some ⟨gv, 0, none⟩) xs.length cap']]) ∧ St w0 wr L) (fun i _ => C - (intOf i).toNat)
    case atStart => exact ⟨0, none, 0, L, Nat.zero_le _, rfl, Lib.hid (by rw [HL.out, Nat.zero_mul]; rfl), S⟩
    case round =>
      clear F HL S
      obtain ⟨j, A0, c0, L, hj, rfl, HL, S⟩ := hrel
      have F := factsAll HL S
      simp only [factsOf, cellsFrom, and_true, true_and, Nat.reduceAdd] at F
      by_cases hlt : j < C
      · go_wp2
        go_loopw [5] (fun i wr => ∃ (k : Nat) (A0 : Option Addr) (c0 : Nat) (L : List Ent), k ≤ R ∧ i = .int .i64 k ∧ Hid (L = [.row 3 1 (.slice A0 (j * R + k) c0) (j * R + k) (ints (tab (j * R + k) (turnV R C xs))), .box g3 30 [.int .i64 C, .int .i64 R, .slice A0 (j * R + k) c0], .row 3 1 (.slice (some ⟨gv, 0, none⟩) xs.length cap') xs.length (ints xs), .box gr 30 [.int .i64 0, .int .i64 0, .slice none 0 0], .box gm 30 [.int .i64 R, .int .i64 C, .slice (some ⟨gv, 0, none⟩) xs.length cap']]) ∧ St w0 wr L) (fun i _ => R - (intOf i).toNat)
        case atStart => exact ⟨0, A0, c0, L, Nat.zero_le _, rfl, HL, S⟩
        case round =>
          clear F HL S
          obtain ⟨k, A0, c0, L, hk, rfl, HL, S⟩ := hrel
          have F := factsAll HL S
          simp only [factsOf, cellsFrom, and_true, true_and, Nat.reduceAdd] at F
          by_cases hlt2 : k < R
          · have hq : k * C + j < xs.length := by rw [HN.out, ← HRC.out]; exact cell_lt hlt2 hlt
            have hT := tab_succ (j * R + k) (turnV R C xs)
            rw [turnV_at hlt2] at hT
            have hjr : j * R + k ≤ 1000000 := by
              have : j * R ≤ 5 * 5 := Nat.mul_le_mul (by omega) r2
              omega
            generalize ets : tab (j * R + k) (turnV R C xs) = ts at hT HL
            clear ets
            obtain ⟨m1, hm1⟩ : ∃ m1, k * C = m1 := ⟨_, rfl⟩
            rw [hm1] at hq hT
            have w1 : IntKind.i64.wrap ((k : Int) * (C : Int)) = (m1 : Int) := wrap_nat (by rw [← hm1, Int.natCast_mul]) (by omega)
            have w2 : IntKind.i64.wrap ((m1 : Int) + (j : Int)) = ((m1 + j : Nat) : Int) := wrap_nat (by omega) (by omega)
            obtain ⟨q, hqe⟩ : ∃ q, m1 + j = q := ⟨_, rfl⟩
            rw [hqe] at hq hT w2
            have hx := ints_getD xs q hq
            generalize xs.getD q 0 = x at hT hx
            have HT := Lib.hid hT
            have HX := Lib.hid hx
            clear hT hx hm1 hqe
            generalize ep : j * R + k = p at HL hjr HT
            have EP := Lib.hid ep
            clear ep
            go_wp2
            have hT := congrArg List.tail HL.out; simp only [List.tail_cons] at hT; obtain ⟨L1, hL1⟩ : ∃ M, M = L.tail := ⟨_, rfl⟩; rw [← hL1] at hT; have HL0 := Lib.hid hT; have S1 := S.sub (List.tail_sublist L); rw [← hL1] at S1; have F0 := qFc HL0 S1; clear S1 hL1 hT; (have d0 := fun w' (S' : St w0 w' L1) => (S'.rowCell (p := 1) (atOf HL0 rfl) q (by omega)).trans HX.out); refine wp_region_tree (S := fun w' => St w0 w' L1) (qcs 0 12 (.act 12 (.act 13 (.calm 14 (.act 15 .fin .stop)) .stop) .stop)) (by kernel_rfl) (by kernel_rfl) (by kernel_rfl) (by intro c a d v w h; cases d <;> exact h) ?_; dsimp only [qcs, Nat.reduceAdd]; replace S := S.drew
            repeat (first | refine qCa ?_ | refine qAn ?_ | refine qSk ?_ | (refine tree_act rfl rfl ?_ tree_stop; intro K hK; (refine wp_lit1 S _ _ rfl 3 Tryz.underlying23 infoInt _ rfl ?_; clear F S; intro g w L hM S; replace HL := qNm HL hM; clear hM; have F := qFc HL S); (refine qKo hK ?_; clear hK K)) | (refine tree_act rfl rfl ?_ tree_stop; intro K hK; (refine wp_append_box S _ _ _ rfl 3 _ 1 8 Tryz.underlying23 infoInt rfl (by omega) 1 _ _ _ rfl (atOf HL rfl) (by omega) 0 _ _ _ _ _ rfl (atOf HL rfl) rfl rfl rfl rfl ?_; clear F S; intro u w L hM S; replace HL := qNm HL hM; clear hM; have F := qFc HL S; obtain ⟨A', cap', rfl, hcap', hmax'⟩ := qSl HL S 1); (refine qKo hK ?_; clear hK K)) | (refine tree_act rfl rfl ?_ tree_stop; intro K hK; (refine qsw HL S 2 ?_; clear F S HL; intro w L HL S F); (refine qKo hK ?_; clear hK K)) | (refine tree_act rfl rfl ?_ tree_stop; intro K hK; go_wp2_with (first | fail); (refine qKo hK ?_; clear hK K)))
            refine tree_fin ?_
            clear HL0 F0 d0
            go_wp2
            go_roundw
            case rel =>
              have e1 : p + 1 = j * R + (k + 1) := by rw [← EP.out]; rfl
              have E : ints ts ++ [.int .i64 x] = ints (tab (j * R + (k + 1)) (turnV R C xs)) := by rw [← e1, HT.out]; simp [ints]
              rw [HL.out, E, e1] at S
              exact ⟨k + 1, _, _, _, by omega, by go_num, Lib.hid rfl, S.sub (.cons _ (.refl _))⟩
            case measure => simp [intOf]; omega
          · obtain rfl : k = R := by omega
            go_wp2
            go_roundw
            case rel => exact ⟨j + 1, A0, c0, L, by omega, by go_num, by rw [Nat.succ_mul]; exact HL, S⟩
            case measure => simp [intOf]; omega
      · obtain rfl : j = C := by omega
        go_wp2_with (first | (refine qst HL S 3 ?_; clear F S HL; intro w L HL S F))
        ((try simp only [Exit.inBlock, Exit.then]); refine ret1 rfl (resCell S HL 3 rfl rfl (by kernel_rfl)) rfl ?_)
        refine ⟨_, rfl, ?_⟩
        rw [tab_length]
        exact (by rw [HL.out] at S; exact S.sub (by repeat (first | exact .refl _ | exact List.nil_sublist _ | apply List.Sublist.cons_cons | apply List.Sublist.cons)))
end
section
def triAt (s : Int) : Tri :=
  ⟨⟨(rndTo s 5).getD 0 0, (rndTo s 5).getD 1 0⟩, ⟨(rndTo s 5).getD 2 0, (rndTo s 5).getD 3 0⟩, splitN (mulR (joinS ⟨(rndTo s 5).getD 0 0, (rndTo s 5).getD 1 0⟩) (joinS ⟨(rndTo s 5).getD 2 0, (rndTo s 5).getD 3 0⟩)) ((rndTo s 5).getD 4 0)⟩
theorem sh_ok2 {a b : Int} (ha : rv a = true) (hb : rv b = true) : (Sh.mk a b).ok = true := by simp [Sh.ok, ha, hb]
theorem triAt_ok (s : Int) : triOk (triAt s) = true := by
  have h := fun k hk => rndTo_ring s 5 k hk
  have o1 := sh_ok2 (h 0 (by omega)) (h 1 (by omega))
  have o2 := sh_ok2 (h 2 (by omega)) (h 3 (by omega))
  obtain ⟨o3, e3⟩ := split_ok (mulR_rv (join_bd o1) (join_bd o2)) (h 4 (by omega))
  simp only [triOk, triAt, o1, o2, o3, e3, Bool.and_self, decide_true]
theorem five_of : ∀ {zs : List Int}, zs.length = 5 → ∃ a b c d e, zs = [a, b, c, d, e]
  | [a, b, c, d, e], _ => ⟨a, b, c, d, e, rfl⟩
def triL (t : Tri) : Value := .agg #[.int .i64 (t).a.a, .int .i64 (t).a.b, .int .i64 (t).b.a, .int .i64 (t).b.b, .int .i64 (t).c.a, .int .i64 (t).c.b]
theorem C_impl_MakeTriple (s : Int) (w0 : World) (hs : seedOk s = true) :
    Calls Tryz.prog 152 #[.int .i64 s] w0 fun e w' => e = .returned (.tuple #[triL (triAt s), .int .i64 (seedAt s 5)]) ∧ Below w0.heap.size w0 w' := by
  have CV := fun w => C_seedValid s w
  have CN := fun w => C_RandomList s 5 w hs (by omega)
  rw [hs] at CV
  clear hs
  unfold MakesRnd at CN
  unfold triL triAt
  obtain ⟨r0, r1, r2, r3, r4, hr⟩ := five_of (rndTo_length s 5)
  rw [hr] at CN ⊢
  simp only [List.getD_cons_zero, List.getD_cons_succ]
  clear hr
  have CP := fun e f w => C_product r0 r1 r2 r3 e f w
  have CS := fun w => C_impl_SplitNumber (mulR (joinS ⟨r0, r1⟩) (joinS ⟨r2, r3⟩)) r4 w
  generalize mulR (joinS ⟨r0, r1⟩) (joinS ⟨r2, r3⟩) = pr at CP CS ⊢
  generalize splitN pr r4 = q at CS ⊢
  obtain ⟨q0, q1⟩ := q
  dsimp only at CS ⊢
  obtain ⟨L, HL, S⟩ := st_start w0; have F : True := trivial
  go_enter Tryz.func152, Tryz.ntmps152
  go_upto_region 4 with (first | (refine qal HL S zTri ?_; clear F S HL; intro gr w L HL S F) | (go_at_call 52; refine qPu (CV _) ?_) | (go_at_call 177; refine (CN _).mono ?_; rintro e w ⟨u, rfl, T0⟩; have hX := qcl HL S T0; clear F S HL T0; obtain ⟨L, HL, S, F⟩ := hX))
  obtain ⟨gv, cv, rfl, hcv, hmv⟩ := S.rowAt (p := 0) (atOf HL rfl) (by omega)
  have D0 := fun w' (S' : St w0 w' L) => (S'.rowCell (p := 0) (atOf HL rfl) 0 (by omega))
  have D1 := fun w' (S' : St w0 w' L) => (S'.rowCell (p := 0) (atOf HL rfl) 1 (by omega))
  have D2 := fun w' (S' : St w0 w' L) => (S'.rowCell (p := 0) (atOf HL rfl) 2 (by omega))
  have D3 := fun w' (S' : St w0 w' L) => (S'.rowCell (p := 0) (atOf HL rfl) 3 (by omega))
  simp only [ints, List.map_cons, List.map_nil, List.getElem?_cons_zero, List.getElem?_cons_succ] at D0 D1 D2 D3
  clear CN CV
  have HL0 := HL; have F0 := F; refine wp_region_tree (S := fun w' => St w0 w' L) (qcs 0 15 (.act 15 (.act 16 .fin .stop) .stop)) (by kernel_rfl) (by kernel_rfl) (by kernel_rfl) (by intro c a d v w h; cases d <;> exact h) ?_; dsimp only [qcs, Nat.reduceAdd]; replace S := S.drew
  repeat (first | refine qCa ?_ | refine qAn ?_ | refine qSk ?_ | (refine tree_act rfl rfl ?_ tree_stop; intro K hK; (refine qaw HL S zTri ?_; clear F S HL; intro g w L HL S F); (refine qKo hK ?_; clear hK K)) | (refine tree_act rfl rfl ?_ tree_stop; intro K hK; (refine qsw HL S 0 ?_; clear F S HL; intro w L HL S F); (refine qKo hK ?_; clear hK K)) | (refine tree_act rfl rfl ?_ tree_stop; intro K hK; go_wp2_with (first | fail); (refine qKo hK ?_; clear hK K)))
  refine tree_fin ?_
  clear HL0 F0 D0 D1 D2 D3
  go_upto_region 5 with fail
  have D4 := fun w' (S' : St w0 w' L) => (S'.rowCell (p := 1) (atOf HL rfl) 4 (by omega))
  simp only [ints, List.map_cons, List.map_nil, List.getElem?_cons_zero, List.getElem?_cons_succ] at D4
  have HL0 := HL; have F0 := F; refine wp_region_tree (S := fun w' => St w0 w' L) (.calm 0 (qcs 2 3 (.act 1 (.act 5 (.calm 6 (.act 7 .fin .stop)) .stop) .stop))) (by kernel_rfl) (by kernel_rfl) (by kernel_rfl) (by intro c a d v w h; cases d <;> exact h) ?_; dsimp only [qcs, Nat.reduceAdd]; replace S := S.drew
  repeat (first | refine qCa ?_ | refine qAn ?_ | refine qSk ?_ | (refine tree_act rfl rfl ?_ tree_stop; intro K hK; (refine qsw HL S 0 ?_; clear F S HL; intro w L HL S F); (refine qKo hK ?_; clear hK K)) | (refine tree_act rfl rfl ?_ tree_stop; intro K hK; go_wp2_with (first | (go_at_call 184; refine qGr S (CP _ _ _) ?_; clear S; intro w S) | (go_at_call 183; refine qGr S (CS _) ?_; clear S; intro w S)); (refine qKo hK ?_; clear hK K)))
  refine tree_fin ?_
  clear HL0 F0 D4
  go_wp2_with (first | (refine qst HL S 2 ?_; clear F S HL; intro w L HL S F))
  refine ret2 rfl (resCell S HL 2 rfl rfl (by kernel_rfl)) (show _ = _ from rfl) rfl ?_
  exact ⟨rfl, S.below⟩
theorem C_spec_MakeTriple (s : Int) (w0 : World) (hs : seedOk s = true) :
    Calls Tryz.prog 97 #[.int .i64 s] w0 fun e w' => e = .returned (.tuple #[triL (triAt s), .int .i64 (seedAt s 5)]) ∧ Below w0.heap.size w0 w' := by
  have CV : ∀ w : World, Calls Tryz.prog 44 #[.int .i64 s, .int .i64 1, .int .i64 2147483646] w fun e w' => e = .returned (.bool (seedOk s)) ∧ w = w' := fun w => C_spec_l1In s 1 2147483646 w
  have hb := seedOk_bd hs
  have CN := fun w => C_spec_l4List s 5 w ⟨by omega, hb.2⟩ (by omega)
  rw [hs] at CV
  clear hs hb
  unfold MakesRnd at CN
  unfold triL triAt
  obtain ⟨r0, r1, r2, r3, r4, hr⟩ := five_of (rndTo_length s 5)
  rw [hr] at CN ⊢
  simp only [List.getD_cons_zero, List.getD_cons_succ]
  clear hr
  have CJ1 := fun w => C_spec_JoinShares r0 r1 w
  have CJ2 := fun w => C_spec_JoinShares r2 r3 w
  have CM := fun a b q w (h : mulR a b = q) => h ▸ C_spec_MulRing a b w
  have HM : Hid (mulR (joinS ⟨r0, r1⟩) (joinS ⟨r2, r3⟩) = mulR (joinS ⟨r0, r1⟩) (joinS ⟨r2, r3⟩)) := Lib.hid rfl
  have CS := fun w => C_spec_SplitNumber (mulR (joinS ⟨r0, r1⟩) (joinS ⟨r2, r3⟩)) r4 w
  clear HM CM CJ1 CJ2
  generalize splitN (mulR (joinS ⟨r0, r1⟩) (joinS ⟨r2, r3⟩)) r4 = q at CS ⊢
  obtain ⟨q0, q1⟩ := q
  dsimp only at CS ⊢
  obtain ⟨L, HL, S⟩ := st_start w0; have F : True := trivial
  go_enter Tryz.func97, Tryz.ntmps97
  go_upto_region 4 with (first | (refine qal HL S zTri ?_; clear F S HL; intro gr w L HL S F) | (go_at_call 44; refine qPu (CV _) ?_) | (go_at_call 130; refine (CN _).mono ?_; rintro e w ⟨u, rfl, T0⟩; have hX := qcl HL S T0; clear F S HL T0; obtain ⟨L, HL, S, F⟩ := hX))
  obtain ⟨gv, cv, rfl, hcv, hmv⟩ := S.rowAt (p := 0) (atOf HL rfl) (by omega)
  have D0 := fun w' (S' : St w0 w' L) => (S'.rowCell (p := 0) (atOf HL rfl) 0 (by omega))
  have D1 := fun w' (S' : St w0 w' L) => (S'.rowCell (p := 0) (atOf HL rfl) 1 (by omega))
  have D2 := fun w' (S' : St w0 w' L) => (S'.rowCell (p := 0) (atOf HL rfl) 2 (by omega))
  have D3 := fun w' (S' : St w0 w' L) => (S'.rowCell (p := 0) (atOf HL rfl) 3 (by omega))
  simp only [ints, List.map_cons, List.map_nil, List.getElem?_cons_zero, List.getElem?_cons_succ] at D0 D1 D2 D3
  clear CN CV
  have HL0 := HL; have F0 := F; refine wp_region_tree (S := fun w' => St w0 w' L) (qcs 0 15 (.act 15 (.act 16 .fin .stop) .stop)) (by kernel_rfl) (by kernel_rfl) (by kernel_rfl) (by intro c a d v w h; cases d <;> exact h) ?_; dsimp only [qcs, Nat.reduceAdd]; replace S := S.drew
  repeat (first | refine qCa ?_ | refine qAn ?_ | refine qSk ?_ | (refine tree_act rfl rfl ?_ tree_stop; intro K hK; (refine qaw HL S zTri ?_; clear F S HL; intro g w L HL S F); (refine qKo hK ?_; clear hK K)) | (refine tree_act rfl rfl ?_ tree_stop; intro K hK; (refine qsw HL S 0 ?_; clear F S HL; intro w L HL S F); (refine qKo hK ?_; clear hK K)) | (refine tree_act rfl rfl ?_ tree_stop; intro K hK; go_wp2_with (first | fail); (refine qKo hK ?_; clear hK K)))
  refine tree_fin ?_
  clear HL0 F0 D0 D1 D2 D3
  go_upto_region 5 with fail
  have D4 := fun w' (S' : St w0 w' L) => (S'.rowCell (p := 1) (atOf HL rfl) 4 (by omega))
  simp only [ints, List.map_cons, List.map_nil, List.getElem?_cons_zero, List.getElem?_cons_succ] at D4
  have HL0 := HL; have F0 := F; refine wp_region_tree (S := fun w' => St w0 w' L) (.calm 0 (.calm 1 (.calm 3 (.calm 4 (qcs 7 3 (.act 2 (.act 5 (.act 6 (.act 10 (.calm 11 (.act 12 .fin .stop)) .stop) .stop) .stop) .stop)))))) (by kernel_rfl) (by kernel_rfl) (by kernel_rfl) (by intro c a d v w h; cases d <;> exact h) ?_; dsimp only [qcs, Nat.reduceAdd]; replace S := S.drew
  repeat (first | refine qCa ?_ | refine qAn ?_ | refine qSk ?_ | (refine tree_act rfl rfl ?_ tree_stop; intro K hK; (refine qsw HL S 0 ?_; clear F S HL; intro w L HL S F); (refine qKo hK ?_; clear hK K)) | (refine tree_act rfl rfl ?_ tree_stop; intro K hK; go_wp2_with (first | (go_at_call 131; refine qGr S (C_spec_JoinShares _ _ _) ?_; clear S; intro w S) | (go_at_call 138; refine qPu (C_spec_MulRing _ _ _) ?_) | (go_at_call 137; refine qGr S (CS _) ?_; clear S; intro w S)); (refine qKo hK ?_; clear hK K)))
  refine tree_fin ?_
  clear HL0 F0 D4
  go_wp2_with (first | (refine qst HL S 2 ?_; clear F S HL; intro w L HL S F))
  refine ret2 rfl (resCell S HL 2 rfl rfl (by kernel_rfl)) (show _ = _ from rfl) rfl ?_
  exact ⟨rfl, S.below⟩
end
section
def mulV (t : Tri) (d e : Int) : Sh := ⟨ro (t.c.a + d * t.b.a + e * t.a.a + d * e), ro (t.c.b + d * t.b.b + e * t.a.b)⟩
def dOf (x : Sh) (t : Tri) : Int := subR (joinS x) (joinS t.a)
def eOf (y : Sh) (t : Tri) : Int := subR (joinS y) (joinS t.b)
theorem mul_bd {a b : Int} (ha : rv a = true) (hb : rv b = true) : 0 ≤ a * b ∧ a * b ≤ 16769025 := by
  have h1 := rv_bd ha
  have h2 := rv_bd hb
  refine ⟨Int.mul_nonneg h1.1 h2.1, ?_⟩
  have := Int.mul_le_mul (show a ≤ 4095 by omega) (show b ≤ 4095 by omega) h2.1 (by omega)
  omega
theorem join_sub {x y : Sh} (hx : x.ok = true) (hy : y.ok = true) : joinS (subS x y) = subR (joinS x) (joinS y) := by
  rw [sh_ok] at hx hy
  have e : subS x y = ⟨ro (x.a - y.a), ro (x.b - y.b)⟩ := by
    simp [subS, Sh.ok, hx.1, hx.2, hy.1, hy.2, subR]
  rw [e, join_ok (sh_ok2 (rv_ro _) (rv_ro _)), subR_ok (join_bd (sh_ok.2 hx)) (join_bd (sh_ok.2 hy)), join_ok (sh_ok.2 hx), join_ok (sh_ok.2 hy)]
  dsimp only
  unfold ro
  omega
def MakesMul (w0 : World) (p q d e : Int) (r : Ending) (w : World) : Prop :=
  ∃ u, r = .returned (.tuple #[.agg #[.int .i64 p, .int .i64 q], u, .bool true]) ∧ St w0 w [.row 3 1 u 2 (ints [d, e])]
theorem C_impl_MulV (a b c d t0 t1 t2 t3 t4 t5 dd ee p q : Int) (w0 : World) (g1 : Sh.ok ⟨a, b⟩ = true) (g2 : Sh.ok ⟨c, d⟩ = true) (ht : triOk ⟨⟨t0, t1⟩, ⟨t2, t3⟩, ⟨t4, t5⟩⟩ = true)
    (hd : dOf ⟨a, b⟩ ⟨⟨t0, t1⟩, ⟨t2, t3⟩, ⟨t4, t5⟩⟩ = dd) (he : eOf ⟨c, d⟩ ⟨⟨t0, t1⟩, ⟨t2, t3⟩, ⟨t4, t5⟩⟩ = ee) (hp : mulV ⟨⟨t0, t1⟩, ⟨t2, t3⟩, ⟨t4, t5⟩⟩ dd ee = ⟨p, q⟩) :
    Calls Tryz.prog 153 #[.agg #[.int .i64 a, .int .i64 b], .agg #[.int .i64 c, .int .i64 d], .agg #[.int .i64 t0, .int .i64 t1, .int .i64 t2, .int .i64 t3, .int .i64 t4, .int .i64 t5]] w0 (MakesMul w0 p q dd ee) := by
  simp only [triOk, Bool.and_eq_true, decide_eq_true_eq] at ht
  obtain ⟨⟨⟨h1, h2⟩, h3⟩, h4⟩ := ht
  have CT := fun w => C_TripleRight t0 t1 t2 t3 t4 t5 w h1 h2 h3 h4
  have r1 := sh_ok.1 h1
  have r2 := sh_ok.1 h2
  have r3 := sh_ok.1 h3
  have rd : rv dd = true := by rw [← hd]; exact subR_rv (join_bd g1) (join_bd h1)
  have re : rv ee = true := by rw [← he]; exact subR_rv (join_bd g2) (join_bd h2)
  have hd' : subR (joinS ⟨a, b⟩) (joinS ⟨t0, t1⟩) = dd := hd
  have he' : subR (joinS ⟨c, d⟩) (joinS ⟨t2, t3⟩) = ee := he
  dsimp only at r1 r2 r3
  have b1 := mul_bd rd r2.1
  have b2 := mul_bd re r1.1
  have b3 := mul_bd rd re
  have b4 := mul_bd rd r2.2
  have b5 := mul_bd re r1.2
  have c1 := rv_bd r3.1
  have c2 := rv_bd r3.2
  have hp1 : ro (t4 + dd * t2 + ee * t0 + dd * ee) = p := congrArg Sh.a hp
  have hp2 : ro (t5 + dd * t3 + ee * t1) = q := congrArg Sh.b hp
  have w1 : IntKind.i64.wrap (dd * t2) = dd * t2 := wrap_small (by omega)
  have w2 : IntKind.i64.wrap (t4 + dd * t2) = t4 + dd * t2 := wrap_small (by omega)
  have w3 : IntKind.i64.wrap (ee * t0) = ee * t0 := wrap_small (by omega)
  have w4 : IntKind.i64.wrap (t4 + dd * t2 + ee * t0) = t4 + dd * t2 + ee * t0 := wrap_small (by omega)
  have w5 : IntKind.i64.wrap (dd * ee) = dd * ee := wrap_small (by omega)
  have w6 : IntKind.i64.wrap (t4 + dd * t2 + ee * t0 + dd * ee) = t4 + dd * t2 + ee * t0 + dd * ee := wrap_small (by omega)
  have w7 : IntKind.i64.wrap (dd * t3) = dd * t3 := wrap_small (by omega)
  have w8 : IntKind.i64.wrap (t5 + dd * t3) = t5 + dd * t3 := wrap_small (by omega)
  have w9 : IntKind.i64.wrap (ee * t1) = ee * t1 := wrap_small (by omega)
  have w10 : IntKind.i64.wrap (t5 + dd * t3 + ee * t1) = t5 + dd * t3 + ee * t1 := wrap_small (by omega)
  have C1 : ∀ w, Calls Tryz.prog 151 #[.int .i64 (t4 + dd * t2 + ee * t0 + dd * ee)] w fun e w' => e = .returned (.int .i64 p) ∧ w = w' := fun w => hp1 ▸ C_impl_RingOf _ w
  have C2 : ∀ w, Calls Tryz.prog 151 #[.int .i64 (t5 + dd * t3 + ee * t1)] w fun e w' => e = .returned (.int .i64 q) ∧ w = w' := fun w => hp2 ▸ C_impl_RingOf _ w
  clear h1 h2 h3 h4 hd he hp r1 r2 r3 rd re b1 b2 b3 b4 b5 c1 c2
  have HD := Lib.hid hd'
  have HE := Lib.hid he'
  have CR := fun n x w (h : ro n = x) => (h ▸ C_impl_RingOf n w : Calls Tryz.prog 151 #[.int .i64 n] w fun e w' => e = .returned (.int .i64 x) ∧ w = w')
  have HP1 := Lib.hid hp1
  have HP2 := Lib.hid hp2
  have CSR := fun x y z w (h : subR x y = z) => (h ▸ C_impl_SubRing x y w : Calls Tryz.prog 179 #[.int .i64 x, .int .i64 y] w fun e w' => e = .returned (.int .i64 z) ∧ w = w')
  clear hd' he' hp1 hp2 C1 C2
  unfold MakesMul
  obtain ⟨L, HL, S⟩ := st_start w0; have F : True := trivial
  go_enter Tryz.func153, Tryz.ntmps153
  go_upto_region 3 with (first | (refine qbx HL S ?_; clear F S HL; intro g w L HL S F) | (refine qal HL S zSh ?_; clear F S HL; intro g w L HL S F) | (go_at_call 180; refine qGr S (C_impl_SharedValid _ _ _) ?_; clear S; intro w S) | (go_at_call 185; refine qGr S (CT _) ?_; clear S; intro w S))
  clear CT g1 g2
  have HL0 := HL; have F0 := F; refine wp_region_tree (S := fun w' => St w0 w' L) (.calm 0 (.calm 2 (.calm 3 (.act 1 (.act 4 (.act 5 (.calm 6 .fin) .stop) .stop) .stop)))) (by kernel_rfl) (by kernel_rfl) (by kernel_rfl) (by intro c a d v w h; cases d <;> exact h) ?_; replace S := S.drew
  repeat' (first | refine qCa ?_ | refine qAn ?_ | refine qSk ?_ | exact tree_stop | (refine tree_act rfl rfl ?_ ?_) | (intro K hK; go_wp2_with (first | (go_at_call 178; refine qGr S (C_impl_JoinShares _ _ _) ?_; clear S; intro w S) | (go_at_call 179; refine qPu (CSR _ _ _ _ (by exact HD.out)) ?_)); (refine qKo hK ?_; clear hK K)))
  all_goals
    refine tree_fin ?_
    clear HL0 F0
    go_upto_region 4 with fail
    have HL0 := HL; have F0 := F; refine wp_region_tree (S := fun w' => St w0 w' L) (.calm 0 (.calm 2 (.calm 3 (.act 1 (.act 4 (.act 5 (.calm 6 .fin) .stop) .stop) .stop)))) (by kernel_rfl) (by kernel_rfl) (by kernel_rfl) (by intro c a d v w h; cases d <;> exact h) ?_; replace S := S.drew
    repeat' (first | refine qCa ?_ | refine qAn ?_ | refine qSk ?_ | exact tree_stop | (refine tree_act rfl rfl ?_ ?_) | (intro K hK; go_wp2_with (first | (go_at_call 178; refine qGr S (C_impl_JoinShares _ _ _) ?_; clear S; intro w S) | (go_at_call 179; refine qPu (CSR _ _ _ _ (by exact HE.out)) ?_)); (refine qKo hK ?_; clear hK K)))
    all_goals
      refine tree_fin ?_
      clear HL0 F0
      go_upto_region 5 with fail
      have HL0 := HL; have F0 := F; refine wp_region_tree (S := fun w' => St w0 w' L) (qcs 0 19 (qcs 20 15 (.act 19 (.act 35 (.calm 36 (.act 37 (.act 38 .fin .stop) .stop)) (.act 37 (.act 35 (.calm 36 (.act 38 .fin .stop)) .stop) .stop)) (.act 37 (.act 19 (.act 35 (.calm 36 (.act 38 .fin .stop)) .stop) .stop) .stop)))) (by kernel_rfl) (by kernel_rfl) (by kernel_rfl) (by intro c a d v w h; cases d <;> exact h) ?_; dsimp only [qcs, Nat.reduceAdd]; replace S := S.drew
      repeat' (first | refine qCa ?_ | refine qAn ?_ | refine qSk ?_ | exact tree_stop | (refine tree_act rfl rfl ?_ ?_) | (intro K hK; (refine qaw HL S zSh ?_; clear F S HL; intro g w L HL S F); (refine qKo hK ?_; clear hK K)) | (intro K hK; (refine qsw HL S 0 ?_; clear F S HL; intro w L HL S F); (refine qKo hK ?_; clear hK K)) | (intro K hK; go_wp2_with (first | (go_at_call 151; refine qPu (CR _ _ _ (by first | exact HP1.out | exact HP2.out)) ?_)); (refine qKo hK ?_; clear hK K)))
      all_goals
        refine tree_fin ?_
        clear HL0 F0
        go_wp2_with (first | (refine wpList_lit rfl S _ _ _ rfl 3 Tryz.underlying23 infoInt (by simp [Act.eval]) (by simp [Act.eval, Value.oneCell']) rfl rfl rfl ?_; clear F S; intro g w L hM S; replace HL := qNm HL hM; clear hM; have F := qFc HL S) | (refine qst HL S 2 ?_; clear F S HL; intro w L HL S F))
        refine ret3 rfl (resCell S HL 2 rfl rfl (by kernel_rfl)) (show _ = _ from rfl) (show _ = _ from rfl) rfl ?_
        rw [HL.out] at S
        have T := S.asRow (p := 0) (n := 2) (size := 1) rfl rfl (by simp [maxLen])
        exact ⟨_, rfl, T.sub (by repeat (first | exact .refl _ | exact List.nil_sublist _ | apply List.Sublist.cons_cons | apply List.Sublist.cons))⟩
end
end Go.Proofs.YtjgfjfjboimgdaaGreat
