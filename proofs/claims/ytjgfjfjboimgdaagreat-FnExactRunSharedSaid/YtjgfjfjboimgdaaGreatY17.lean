/- TbI ScI -/
import Derived.Test.YtjgfjfjboimgdaaGreatY11
namespace Go.Proofs.YtjgfjfjboimgdaaGreat
set_option linter.unusedSimpArgs false
set_option linter.unusedVariables false
set_option linter.unusedSectionVars false
open Go Go.RowKit
set_option maxHeartbeats 8000000
set_option maxRecDepth 20000
section
section
variable {P : Program} {w0 w : World} {a : Act} {L : List Ent} {o : Oper} {K : Act → World → Prop} {Q : Exit → Act → World → Prop}
theorem wp_make (S : St w0 w L) (l c : Operand) (t : TypeId) (ho : o.op = .makeSlice t l c)
    (e : TypeId) (z : Value) (size bytes : Nat) (ht : P.underlying t = some (.slice e)) (hi : (P.info? e).map (fun i => (i.zero, i.size, i.bytes)) = some (some z, size, bytes))
    (N : Int) (n : Nat) (hl : a.eval l = .int .i64 N) (hc : a.eval c = .int .i64 N) (hN : N = (n : Int)) (hb : bytes * n ≤ 281474976710656) (hm : n ≤ maxLen)
    (h : ∀ g w' M, M = .row e size (.slice (some ⟨g, 0, none⟩) n n) n (madeCells z.cells (n * size)).toList :: L → St w0 w' M → K (a.put o.dst (.slice (some ⟨g, 0, none⟩) n n)) w') : o.wp P a w K Q := by
  obtain ⟨i, hi0, hz0, hz1, hz2⟩ := info_parts hi
  subst hz2
  obtain ⟨w', hrun, hown, hg⟩ := run_make_full (P := P) w w.heap.size t e i z size ht hi0 hz0 hz1 .i64 .i64 n hb hm (Nat.le_refl _)
  subst hN
  have hbl : Below w.heap.size w w' := ⟨hg.os, hg.tape, hg.output, hg.size, fun k hk => hg.block k hk (by simp)⟩
  have T : St w w' [.row e size (.slice (some ⟨w.heap.size, 0, none⟩) n n) n (madeCells z.cells (n * size)).toList] :=
    ⟨hbl, fun e' he => by rw [List.mem_singleton.1 he]; exact hown, List.pairwise_singleton _ _⟩
  unfold Oper.wp
  simp [execOp, ho, hl, hc, hrun, Result.andThen]
  exact h w.heap.size w' _ rfl (S.call T)
end
theorem firstAt_all (s : Int) : (firstAt s).all rv = true := by
  rw [List.all_eq_true]
  intro x hx
  obtain ⟨i, hi⟩ := List.mem_iff_getElem?.1 hx
  obtain ⟨h, rfl⟩ := List.getElem?_eq_some_iff.1 hi
  have := rndTo_ring (seedAt s 2) 4096 i (by rw [← firstAt_len s]; exact h)
  rw [List.getD_eq_getElem?_getD] at this
  have e : rndTo (seedAt s 2) 4096 = firstAt s := rfl
  rw [e, List.getElem?_eq_getElem h] at this
  exact this
theorem secondAt_all {vs : List Int} (h : vs.all rv = true) (s : Int) : (secondAt vs s).all rv = true := tab_all fun q _ => sub_rv (getD_rv h _) (getD_rv (firstAt_all s) q)
theorem nat_rv {q : Nat} (h : q < 4096) : rv (q : Int) = true := by simp [rv]; omega
theorem zTable : (Tryz.prog.info? 126).bind (·.zero) = some (.agg #[.int .i64 0, .int .i64 0, .slice none 0 0, .slice none 0 0]) := by kernel_rfl
theorem C_impl_FunctionValues (k : Int) (hk : 1 ≤ k ∧ k ≤ 5) (w0 : World) : Calls Tryz.prog 145 #[.int .i64 k] w0 fun e w => ∃ u, e = .returned u ∧ St w0 w [.row 3 1 u 4096 (ints (valsOf k))] := by
  have HK := Lib.hid (show k = 1 ∨ k = 2 ∨ k = 3 ∨ k = 4 ∨ k = 5 by omega)
  have CK := fun w => C_functionKnown k true w (by simp [hk.1, hk.2])
  clear hk
  obtain ⟨L, HL, S⟩ := st_start w0; have F : True := trivial
  go_enter Tryz.func145, Tryz.ntmps145
  go_wp2_with (first | (go_at_call 144; refine qPu (CK _) ?_) | (at_make; refine wpList_make rfl S _ _ _ rfl 3 _ 1 8 Tryz.underlying23 infoInt _ 4096 rfl rfl rfl (by omega) (by simp only [maxLen]; omega) ?_; clear F S; intro g w L hM S; replace HL := qNm HL hM; clear hM; have F := qFc HL S))
  go_loopw [11] (fun i wr => ∃ (q : Nat) (L : List Ent), q ≤ 4096 ∧ i = .int .i64 q ∧ Hid (L = [.row 3 1 (.slice (some ⟨g, 0, none⟩) 4096 4096) 4096 (ints (tab 4096 fun j => if j < q then fnAt k j else 0))]) ∧ St w0 wr L) (fun i _ => 4096 - (intOf i).toNat)
  case atStart => exact ⟨0, L, Nat.zero_le _, rfl, Lib.hid (by rw [fil_zero (fun j => fnAt k j) 4096, ← ints_tab_zero]; exact HL.out), S⟩
  case round =>
    clear F HL S
    obtain ⟨q, L, hq, rfl, HL, S⟩ := hrel
    have F : True := trivial
    by_cases hlt : q < 4096
    · have ea := fil_set (fun j => fnAt k j) 4096 q
      obtain ⟨z, hz⟩ : ∃ z, fnAt k q = z := ⟨_, rfl⟩
      simp only [hz] at ea
      have EA := Lib.hid ea
      have CF := fun w => C_impl_FunctionAt k q z w (nat_rv hlt) HK.out hz
      obtain ⟨X, hX⟩ : ∃ X, (tab 4096 fun j => if j < q then fnAt k j else 0) = X := ⟨_, rfl⟩
      rw [hX] at HL EA
      clear ea hz hX
      go_wp2_with (first | (go_at_call 176; refine qPu (CF _) ?_) | (refine wpList_store_row rfl S _ _ _ rfl 0 _ _ _ _ _ _ _ (atOf HL rfl) rfl _ rfl (by kernel_rfl) rfl (by omega) ?_; clear F S; intro w L hM S; replace HL := qNm HL hM; clear hM; have F := qFc HL S))
      go_roundw
      case rel =>
        rw [← ints_set, EA.out] at HL
        exact ⟨q + 1, L, by omega, by go_num, HL, S⟩
      case measure => simp [intOf]; omega
    · obtain rfl : q = 4096 := by omega
      go_wp2
      go_ret
      rw [HL.out, fil_full] at S
      exact ⟨_, rfl, S⟩
def MakesTab (w0 : World) (a b : Int) (fs ss : List Int) (z : Int) (e : Ending) (w : World) : Prop :=
  ∃ u v, e = .returned (.tuple #[.agg #[.int .i64 a, .int .i64 b, u, v], .int .i64 z]) ∧ St w0 w [.row 3 1 v 4096 (ints ss), .row 3 1 u 4096 (ints fs)]
theorem C_RingOfL (n : Int) (j : Nat) (w0 : World) (h : ro n = (j : Int)) : Calls Tryz.prog 151 #[.int .i64 n] w0 fun e w' => e = .returned (.int .i64 (j : Int)) ∧ w0 = w' := h ▸ C_impl_RingOf n w0
theorem C_SubRingT (a b q : Int) (w0 : World) (h : subR a b = q) : Calls Tryz.prog 179 #[.int .i64 a, .int .i64 b] w0 fun e w' => e = .returned (.int .i64 q) ∧ w0 = w' := h ▸ C_impl_SubRing a b w0
theorem C_impl_MakeTable (vs : List Int) (v : Value) (s : Int) (w0 : World) (h : Ints w0 v vs) (hl : vs.length = 4096) (ha : vs.all rv = true) (hs : seedOk s = true) :
    Calls Tryz.prog 147 #[v, .int .i64 s] w0 (MakesTab w0 (shiftAt s).a (shiftAt s).b (firstAt s) (secondAt vs s) (tabNext s)) := by
  unfold MakesTab
  have HV0 := Lib.hid h
  obtain ⟨_, A, cap, rfl, hcap, hmax, hA⟩ := h
  have CA := fun w h => C_impl_allRing (.slice A vs.length cap) vs w h
  rw [ha] at CA
  have CS := fun w => C_seedValid s w
  rw [hs] at CS
  have C1 := fun w => C_RandomList s 2 w hs (by omega)
  have C2 := fun w => C_RandomList (seedAt s 2) 4096 w (seedOk_at hs 2) (by omega)
  unfold MakesRnd at C1 C2
  have HV : Hid (Ints w0 (.slice A 4096 cap) vs) := Lib.hid (by rw [← hl]; exact HV0.out)
  rw [hl] at hcap hA CA
  rw [hl]
  clear HV0
  obtain ⟨bv, ov, rfl, hbv, hcv⟩ := hA (by omega)
  have HCV := Lib.hid hcv
  obtain ⟨a, b, hab⟩ := two_of (rndTo_length s 2)
  have e1 : (shiftAt s).a = a := by show (rndTo s 2).getD 0 0 = a; rw [hab]; rfl
  have e2 : (shiftAt s).b = b := by show (rndTo s 2).getD 1 0 = b; rw [hab]; rfl
  have hsec : ∀ q, secondV vs s q = subR (vs.getD (ro (q - joinS ⟨a, b⟩)).toNat 0) ((firstAt s).getD q 0) := fun q => by
    show subR (vs.getD (ro (q - joinS (shiftAt s))).toNat 0) _ = _
    have : shiftAt s = ⟨a, b⟩ := by rw [← e1, ← e2]
    rw [this]
  have HSEC := Lib.hid hsec
  rw [hab] at C1
  rw [e1, e2]
  have hfl := firstAt_len s
  have hr : rndTo (seedAt s 2) 4096 = firstAt s := rfl
  rw [hr] at C2
  have hz : seedAt (seedAt s 2) 4096 = tabNext s := rfl
  rw [hz] at C2
  have hsa : secondAt vs s = tab 4096 (secondV vs s) := rfl
  rw [hsa]
  have HFL := Lib.hid hfl
  have HLV := Lib.hid hl
  clear hab e1 e2 hsec hr hz hsa hfl ha hs hcv hA hl
  generalize firstAt s = fs at *
  generalize secondV vs s = sv at *
  generalize tabNext s = z at *
  generalize seedAt s 2 = s1 at *
  have hsh : 0 ≤ joinS ⟨a, b⟩ ∨ joinS ⟨a, b⟩ = -1 := by
    unfold joinS addR
    split
    · left; unfold ro; omega
    · right; rfl
  have hsh2 : joinS ⟨a, b⟩ < 4096 := by
    unfold joinS addR
    split
    · unfold ro; omega
    · omega
  have CJ := fun w => C_impl_JoinShares a b w
  obtain ⟨sh, hshd⟩ : ∃ sh, joinS ⟨a, b⟩ = sh := ⟨_, rfl⟩
  rw [hshd] at hsh hsh2 CJ HSEC
  have hsh1 : -1 ≤ sh := by omega
  clear hshd hsh
  obtain ⟨L, HL, S⟩ := st_start w0; have F : True := trivial
  go_enter Tryz.func147, Tryz.ntmps147
  go_upto_region 3 with (first | (refine qal HL S zTable ?_; clear F S HL; intro gr w L HL S F) | (go_at_call 113; refine qPu (CA _ (HV.out.at_ S)) ?_) | (go_at_call 52; refine qPu (CS _) ?_))
  go_upto_region 4 with (first | (go_at_call 177; refine (C1 _).mono ?_; rintro e w ⟨u, rfl, T0⟩; have hX := qcl HL S T0; clear F S HL T0; obtain ⟨L, HL, S, F⟩ := hX))
  go_upto_region 5 with (first | (go_at_call 177; refine (C2 _).mono ?_; rintro e w ⟨u, rfl, T0⟩; have hX := qcl HL S T0; clear F S HL T0; obtain ⟨L, HL, S, F⟩ := hX))
  obtain ⟨g2, c2, rfl, hc2, hm2⟩ := S.rowAt (p := 0) (atOf HL rfl) (by omega)
  obtain ⟨g1, c1, rfl, hc1, hm1⟩ := S.rowAt (p := 1) (atOf HL rfl) (by omega)
  have D0 := fun w' (S' : St w0 w' L) => (S'.rowCell (p := 1) (atOf HL rfl) 0 (by omega))
  have D1 := fun w' (S' : St w0 w' L) => (S'.rowCell (p := 1) (atOf HL rfl) 1 (by omega))
  simp only [ints, List.map_cons, List.map_nil, List.getElem?_cons_zero, List.getElem?_cons_succ] at D0 D1
  clear C1 C2 CA CS
  (try simp only [Act.put, qP0, qP1, qP2])
  go_cut [10] (fun v w => ∃ (gt gs : Nat), v = .pointer (some ⟨gt, 0, none⟩) ∧ St w0 w (.row 3 1 (.slice (some ⟨gs, 0, none⟩) 4096 4096) 4096 (ints (tab 4096 fun _ => 0)) :: .box gt 126 [.int .i64 a, .int .i64 b, .slice (some ⟨g2, 0, none⟩) 4096 c2, .slice (some ⟨gs, 0, none⟩) 4096 4096] :: L))
  case first =>
    have HL0 := HL; have F0 := F; refine wp_region_tree (S := fun w' => St w0 w' L) (qcs 0 8 (.act 8 (.calm 9 (.act 10 (.act 11 .fin .stop) .stop)) (.act 10 (.act 8 (.calm 9 (.act 11 .fin .stop)) .stop) .stop))) (by kernel_rfl) (by kernel_rfl) (by kernel_rfl) (by intro c a d v w h; cases d <;> exact h) ?_; dsimp only [qcs, Nat.reduceAdd]; replace S := S.drew
    repeat' (first | refine qCa ?_ | refine qAn ?_ | refine qSk ?_ | exact tree_stop | (refine tree_act rfl rfl ?_ ?_) | (intro K hK; (refine wp_make S _ _ _ rfl 3 _ 1 8 Tryz.underlying23 infoInt _ 4096 rfl rfl rfl (by omega) (by simp only [maxLen]; omega) ?_; clear F S; intro gs w L hM S; replace HL := qNm HL hM; clear hM; have F := qFc HL S); (refine qKo hK ?_; clear hK K)) | (intro K hK; (refine qaw HL S zTable ?_; clear F S HL; intro gt w L HL S F); (refine qKo hK ?_; clear hK K)) | (intro K hK; (refine qsw HL S 0 ?_; clear F S HL; intro w L HL S F); (refine qKo hK ?_; clear hK K)) | (intro K hK; (refine qsw HL S 1 ?_; clear F S HL; intro w L HL S F); (refine qKo hK ?_; clear hK K)) | (intro K hK; go_wp2_with (first | fail); (refine qKo hK ?_; clear hK K)))
    all_goals
      refine tree_fin ?_
      go_wp2_with fail
      go_meet
      refine ⟨gt, gs, rfl, ?_⟩
      rw [HL.out] at S
      rw [HL0.out, ← ints_tab_zero]
      first
        | exact S
        | exact S.perm (.swap _ _ _)
  case rest =>
  obtain ⟨gt, gs, rfl, T0⟩ := hcut
  clear D0 D1
  obtain ⟨L, hM, T⟩ := st_name T0
  clear T0
  clear F S; replace HL := qNm HL hM; clear hM; have S := T; clear T; have F := qFc HL S
  go_upto_region 7 with (first | (go_at_call 178; refine qGr S (CJ _) ?_; clear S; intro w S))
  clear CJ
  go_wp2
  go_loopw [53] (fun i wr => ∃ (q : Nat) (L : List Ent), q ≤ 4096 ∧ i = .int .i64 q ∧ Hid (L = [.row 3 1 (.slice (some ⟨gs, 0, none⟩) 4096 4096) 4096 (ints (tab 4096 fun i => if i < q then sv i else 0)), .box gt 126 [.int .i64 a, .int .i64 b, .slice (some ⟨g2, 0, none⟩) 4096 c2, .slice (some ⟨gs, 0, none⟩) 4096 4096], .row 3 1 (.slice (some ⟨g2, 0, none⟩) 4096 c2) 4096 (ints fs), .row 3 1 (.slice (some ⟨g1, 0, none⟩) 2 c1) 2 (ints [a, b]), .box gr 126 [.int .i64 0, .int .i64 0, .slice none 0 0, .slice none 0 0]]) ∧ St w0 wr L) (fun i _ => 4096 - (intOf i).toNat)
  case atStart => exact ⟨0, L, Nat.zero_le _, rfl, Lib.hid (by rw [fil_zero sv 4096]; exact HL.out), S⟩
  case round =>
    clear F HL S
    obtain ⟨q, L, hq, rfl, HL, S⟩ := hrel
    have F := factsAll HL S
    simp only [factsOf, cellsFrom, and_true, true_and, Nat.reduceAdd] at F
    by_cases hlt : q < 4096
    · obtain ⟨j, hj, hj2⟩ : ∃ j : Nat, ro ((q : Int) - sh) = (j : Int) ∧ j < 4096 := ⟨(ro ((q : Int) - sh)).toNat, by unfold ro; omega, by unfold ro; omega⟩
      have hz := HSEC.out q
      rw [hj, Int.toNat_natCast] at hz
      have x0 := HCV.out j _ (ints_getD vs j (by rw [HLV.out]; exact hj2))
      have y0 := ints_getD fs q (by rw [HFL.out]; exact hlt)
      have ea := fil_set sv 4096 q
      generalize vs.getD j 0 = x at x0 hz
      generalize fs.getD q 0 = y at y0 hz
      obtain ⟨z2, hz2⟩ : ∃ z2, sv q = z2 := ⟨_, rfl⟩
      rw [hz2] at hz ea
      have X0 := Lib.hid x0
      have Y0 := Lib.hid y0
      have EQ := Lib.hid hz.symm
      have EA := Lib.hid ea
      have HJ := Lib.hid hj
      have v2 : IntKind.i64.wrap ((q : Int) - sh) = (q : Int) - sh := wrap_small (by omega)
      have hj4 : (j : Int) < 4096 := by omega
      obtain ⟨X, hX⟩ : ∃ X, (tab 4096 fun i => if i < q then sv i else 0) = X := ⟨_, rfl⟩
      rw [hX] at HL EA
      clear x0 y0 hz ea hj hz2 hX
      go_upto_region 10 with fail
      have hT := congrArg List.tail HL.out; simp only [List.tail_cons] at hT; obtain ⟨L1, hL1⟩ : ∃ M, M = L.tail := ⟨_, rfl⟩; rw [← hL1] at hT; have HL0 := Lib.hid hT; have S1 := S.sub (List.tail_sublist L); rw [← hL1] at S1; have F0 := qFc HL0 S1; clear S1 hL1 hT; (have f0 := fun w' (S' : St w0 w' L1) => (S'.below.cell (p := ⟨bv, ov + j, none⟩) hbv).trans X0.out); (have f1 := fun w' (S' : St w0 w' L1) => (S'.rowCell (p := 1) (atOf HL0 rfl) q (by omega)).trans Y0.out); refine wp_region_tree (S := fun w' => St w0 w' L1) (qcs 0 7 (qcs 10 5 (.act 7 (.calm 8 (.calm 9 (.act 15 (.calm 16 (.act 17 .fin .stop)) .stop))) .stop))) (by kernel_rfl) (by kernel_rfl) (by kernel_rfl) (by intro c a d v w h; cases d <;> exact h) ?_; dsimp only [qcs, Nat.reduceAdd]; replace S := S.drew
      repeat (first | refine qCa ?_ | refine qAn ?_ | refine qSk ?_ | (refine tree_act rfl rfl ?_ tree_stop; intro K hK; (refine wp_store_row S _ _ _ rfl 0 _ _ _ _ _ _ _ (atOf HL rfl) rfl _ rfl (by kernel_rfl) rfl (by omega) ?_; clear F S; intro w L hM S; replace HL := qNm HL hM; clear hM; have F := qFc HL S); (refine qKo hK ?_; clear hK K)) | (refine tree_act rfl rfl ?_ tree_stop; intro K hK; go_wp2_with (first | (go_at_call 151; refine qPu (C_RingOfL _ j _ (by exact HJ.out)) ?_) | (go_at_call 179; refine qPu (C_SubRingT _ _ _ _ (by exact EQ.out)) ?_)); (refine qKo hK ?_; clear hK K)))
      refine tree_fin ?_
      clear HL0 F0 f0 f1 v2
      go_wp2
      go_roundw
      case rel =>
        rw [← ints_set, EA.out] at HL
        exact ⟨q + 1, L, by omega, by go_num, HL, S⟩
      case measure => simp [intOf]; omega
    · obtain rfl : q = 4096 := by omega
      go_wp2_with (first | (refine qst HL S 4 ?_; clear F S HL; intro w L HL S F))
      refine ret2 rfl (resCell S HL 4 rfl rfl (by kernel_rfl)) (show _ = _ from rfl) rfl ?_
      rw [HL.out, fil_full] at S
      exact ⟨_, _, rfl, S.sub (.cons_cons _ (.cons _ (.cons_cons _ (List.nil_sublist _))))⟩
theorem C_allRingT (v : Value) (xs : List Int) (w0 : World) (h : Ints w0 v xs) (ha : xs.all rv = true) : Calls Tryz.prog 113 #[v] w0 fun e w' => e = .returned (.bool true) ∧ w0 = w' := ha ▸ C_impl_allRing v xs w0 h
theorem C_impl_TableValid (p q : Int) (fs ss : List Int) (u v : Value) (w0 : World) (h2 : Sh.ok ⟨p, q⟩ = true) (hu : Ints w0 u fs) (hv : Ints w0 v ss) (lf : fs.length = 4096) (ls : ss.length = 4096) (af : fs.all rv = true) (az : ss.all rv = true) :
    Calls Tryz.prog 181 #[.agg #[.int .i64 p, .int .i64 q, u, v]] w0 fun e w' => e = .returned (.bool true) ∧ Below w0.heap.size w0 w' := by
  have HU := Lib.hid hu
  have HV := Lib.hid hv
  have CS := fun w => C_impl_SharedValid p q w
  rw [h2] at CS
  obtain ⟨_, A, cap, rfl, hcap, hmax, _⟩ := hu
  obtain ⟨_, B, cap', rfl, hcap', hmax', _⟩ := hv
  have HAF := Lib.hid af
  have HAZ := Lib.hid az
  rw [lf] at HU hcap
  rw [ls] at HV hcap'
  rw [lf, ls]
  clear lf ls af az h2
  obtain ⟨L, HL, S⟩ := st_start w0; have F : True := trivial
  go_enter Tryz.func181, Tryz.ntmps181
  go_wp2_with (first | (refine qbx HL S ?_; clear F S HL; intro g w L HL S F)  | (refine qst HL S 0 ?_; clear F S HL; intro w L HL S F) | (refine qst HL S 1 ?_; clear F S HL; intro w L HL S F) | (refine qst HL S 2 ?_; clear F S HL; intro w L HL S F) | (refine qst HL S 3 ?_; clear F S HL; intro w L HL S F)  | (go_at_call 180; refine qGr S (CS _) ?_; clear S; intro w S) | (go_at_call 113; refine qPu (C_allRingT _ _ _ (by first | exact HU.out.at_ S | exact HV.out.at_ S) (by first | exact HAF.out | exact HAZ.out)) ?_))
  go_ret
  exact ⟨rfl, S.below⟩
theorem C_impl_UseTable (a b p q : Int) (fs ss : List Int) (u v : Value) (o : Nat) (x y : Int) (w0 : World) (h1 : Sh.ok ⟨a, b⟩ = true) (h2 : Sh.ok ⟨p, q⟩ = true) (hu : Ints w0 u fs) (hv : Ints w0 v ss) (lf : fs.length = 4096) (ls : ss.length = 4096) (af : fs.all rv = true) (az : ss.all rv = true)
    (ho : addR (joinS ⟨a, b⟩) (joinS ⟨p, q⟩) = (o : Int)) (ho2 : o < 4096) (hx : fs.getD o 0 = x) (hy : ss.getD o 0 = y) :
    Calls Tryz.prog 148 #[.agg #[.int .i64 a, .int .i64 b], .agg #[.int .i64 p, .int .i64 q, u, v]] w0 fun e w' => e = .returned (.tuple #[.agg #[.int .i64 x, .int .i64 y], .int .i64 (o : Int), .bool true]) ∧ Below w0.heap.size w0 w' := by
  have CT := fun w hu hv => C_impl_TableValid p q fs ss u v w h2 hu hv lf ls af az
  have CS := fun w => C_impl_SharedValid a b w
  rw [h1] at CS
  have HU := Lib.hid hu
  have HV := Lib.hid hv
  obtain ⟨_, A, cap, rfl, hcap, hmax, hA⟩ := hu
  obtain ⟨_, B, cap', rfl, hcap', hmax', hB⟩ := hv
  obtain ⟨bu, ou, rfl, hbu, hcu⟩ := hA (by omega)
  obtain ⟨bv, ov, rfl, hbv, hcv⟩ := hB (by omega)
  have x0 := hcu o _ (ints_getD fs o (by omega))
  have y0 := hcv o _ (ints_getD ss o (by omega))
  rw [hx] at x0
  rw [hy] at y0
  have X0 := Lib.hid x0
  have Y0 := Lib.hid y0
  have HO := Lib.hid ho
  rw [lf] at HU hcap CT
  rw [ls] at HV hcap' CT
  rw [lf, ls]
  have ho3 : (o : Int) < 4096 := by omega
  clear lf ls af az h1 h2 ho hx hy x0 y0 hcu hcv hA hB
  obtain ⟨L, HL, S⟩ := st_start w0; have F : True := trivial
  go_enter Tryz.func148, Tryz.ntmps148
  go_upto_region 3 with (first | (refine qbd 2 HL S ?_; clear F S HL; intro g2 w L HL S F) | (refine qbd 3 HL S ?_; clear F S HL; intro g3 w L HL S F) | (refine qal HL S zSh ?_; clear F S HL; intro gr w L HL S F) | (go_at_call 180; refine qGr S (CS _) ?_; clear S; intro w S) | (go_at_call 181; refine qGr S (CT _ (HU.out.at_ S) (HV.out.at_ S)) ?_; clear S; intro w S))
  clear CT CS
  have HL0 := HL; have F0 := F; refine wp_region_tree (S := fun w' => St w0 w' L) (.calm 0 (.calm 2 (.calm 3 (.act 1 (.act 4 (.act 5 (.calm 6 .fin) .stop) .stop) .stop)))) (by kernel_rfl) (by kernel_rfl) (by kernel_rfl) (by intro c a d v w h; cases d <;> exact h) ?_; replace S := S.drew
  repeat' (first | refine qCa ?_ | refine qAn ?_ | refine qSk ?_ | exact tree_stop | (refine tree_act rfl rfl ?_ ?_) | (intro K hK; go_wp2_with (first | (go_at_call 178; refine qGr S (C_impl_JoinShares _ _ _) ?_; clear S; intro w S) | (go_at_call 105; refine qPu (C_AddRingL _ _ _ _ (by exact HO.out)) ?_)); (refine qKo hK ?_; clear hK K)))
  all_goals
    refine tree_fin ?_
    clear HL0 F0
    go_upto_region 4 with fail
    have hT := congrArg List.tail HL.out; simp only [List.tail_cons] at hT; obtain ⟨L1, hL1⟩ : ∃ M, M = L.tail := ⟨_, rfl⟩; rw [← hL1] at hT; have HL0 := Lib.hid hT; have S1 := S.sub (List.tail_sublist L); rw [← hL1] at S1; have F0 := qFc HL0 S1; clear S1 hL1 hT; (have f0 := fun w' (S' : St w0 w' L1) => (S'.below.cell (p := ⟨bu, ou + o, none⟩) hbu).trans X0.out); (have f1 := fun w' (S' : St w0 w' L1) => (S'.below.cell (p := ⟨bv, ov + o, none⟩) hbv).trans Y0.out); refine wp_region_tree (S := fun w' => St w0 w' L1) (qcs 0 12 (.act 12 (.calm 13 (.calm 14 .fin)) .stop)) (by kernel_rfl) (by kernel_rfl) (by kernel_rfl) (by intro c a d v w h; cases d <;> exact h) ?_; dsimp only [qcs, Nat.reduceAdd]; replace S := S.drew
    repeat (first | refine qCa ?_ | refine qAn ?_ | refine qSk ?_ | (refine tree_act rfl rfl ?_ tree_stop; intro K hK; (refine qsw HL S 0 ?_; clear F S HL; intro w L HL S F); (refine qKo hK ?_; clear hK K)) | (refine tree_act rfl rfl ?_ tree_stop; intro K hK; go_wp2_with (first | fail); (refine qKo hK ?_; clear hK K)))
    refine tree_fin ?_
    clear HL0 F0 f0 f1
    go_wp2
    refine ret3 rfl (resCell S HL 0 rfl rfl (by kernel_rfl)) (show _ = _ from rfl) (show _ = _ from rfl) rfl ?_
    exact ⟨rfl, S.below⟩
end
section
theorem all_rv {xs : List Int} (h : xs.all rv = true) {k : Nat} (hk : k < xs.length) : rv (xs.getD k 0) = true := by
  rw [List.getD_eq_getElem?_getD, List.getElem?_eq_getElem hk]
  exact List.all_eq_true.1 h _ (List.getElem_mem hk)
theorem C_sharesAt' (r c : Int) (xs : List Int) (r' c' : Int) (ys : List Int) (u v : Value) (k : Nat) (x y : Int) (w0 : World) (h : Ints w0 u xs) (h' : Ints w0 v ys) (hk : k < xs.length) (hk' : k < ys.length) (hx : xs.getD k 0 = x) (hy : ys.getD k 0 = y) :
    Calls Tryz.prog 149 #[.agg #[.int .i64 r, .int .i64 c, u, .int .i64 r', .int .i64 c', v], .int .i64 k] w0 fun e w' => e = .returned (.agg #[.int .i64 x, .int .i64 y]) ∧ Below w0.heap.size w0 w' := by
  subst hx hy
  exact C_sharesAt r c xs r' c' ys u v k w0 h h' hk hk'
theorem tdiv_nat (k C : Nat) : Int.tdiv (k : Int) (C : Int) = ((k / C : Nat) : Int) := by
  rw [Int.tdiv_eq_ediv_of_nonneg (by omega)]; rfl
theorem C_impl_Scale_bad (r c : Int) (xs : List Int) (r' c' : Int) (ys : List Int) (u v : Value) (rc cc : Int) (us : List Int) (rc' cc' : Int) (vs : List Int) (p q : Value) (seed : Int) (z : Scd) (w0 : World)
    (hu : Ints w0 u xs) (hv : Ints w0 v ys) (hp : Ints w0 p us) (hq : Ints w0 q vs) (hok : ¬ scaleOk ⟨⟨r, c, xs⟩, ⟨r', c', ys⟩⟩ ⟨⟨rc, cc, us⟩, ⟨rc', cc', vs⟩⟩ seed = true) (hz0 : z = ⟨SMx.zero, [], 0⟩) :
    Calls Tryz.prog 106 #[.agg #[.int .i64 r, .int .i64 c, u, .int .i64 r', .int .i64 c', v], .agg #[.int .i64 rc, .int .i64 cc, p, .int .i64 rc', .int .i64 cc', q], .int .i64 seed] w0 (MakesScl w0 z) := by
  unfold MakesScl
  have HU := Lib.hid hu
  have HV := Lib.hid hv
  have HP := Lib.hid hp
  have HQ := Lib.hid hq
  obtain ⟨_, A1, k1, rfl, hk1, hm1, _⟩ := hu
  obtain ⟨_, A2, k2, rfl, hk2, hm2, _⟩ := hv
  obtain ⟨_, A3, k3, rfl, hk3, hm3, _⟩ := hp
  obtain ⟨_, A4, k4, rfl, hk4, hm4, _⟩ := hq
  have CV := fun w => C_seedValid seed w
  · subst hz0
    have hok' : ¬ ((((likeMx ⟨r, c, xs⟩ ⟨r', c', ys⟩ = true ∧ likeMx ⟨rc, cc, us⟩ ⟨rc', cc', vs⟩ = true) ∧ seedOk seed = true) ∧ cc = 1) ∧ rc = r) := by
      intro h
      apply hok
      simp only [scaleOk, SMx.ok, Bool.and_eq_true, decide_eq_true_eq]
      exact h
    clear hok
    cases h1 : likeMx ⟨r, c, xs⟩ ⟨r', c', ys⟩ with
    | false =>
      clear hok'
      obtain ⟨L, HL, S⟩ := st_start w0; have F : True := trivial
      go_enter Tryz.func106, Tryz.ntmps106
      go_upto_region 1 with (first | (refine qbx HL S ?_; clear F S HL; intro g w L HL S F) | (refine qal HL S zSMx ?_; clear F S HL; intro g w L HL S F))
      go_upto_region 2 with (first | (go_at_call 72; refine qGr S (C_impl_SharedMatrixValid _ _ _ _ _ _ _ _ _ _ (by exact HU.out.at_ S) (by exact HV.out.at_ S) (by exact h1)) ?_; clear S; intro w S))
      go_wp2_with (first | (refine qst HL S 0 ?_; clear F S HL; intro w L HL S F))
      refine ret3 rfl (resCell S HL 0 rfl rfl (by kernel_rfl)) (show _ = _ from rfl) (show _ = _ from rfl) rfl ?_
      exact ⟨_, _, _, rfl, S.nilScl _⟩
    | true =>
    cases h2 : likeMx ⟨rc, cc, us⟩ ⟨rc', cc', vs⟩ with
    | false =>
      clear hok'
      obtain ⟨L, HL, S⟩ := st_start w0; have F : True := trivial
      go_enter Tryz.func106, Tryz.ntmps106
      go_upto_region 1 with (first | (refine qbx HL S ?_; clear F S HL; intro g w L HL S F) | (refine qal HL S zSMx ?_; clear F S HL; intro g w L HL S F))
      go_upto_region 2 with (first | (go_at_call 72; refine qGr S (C_impl_SharedMatrixValid _ _ _ _ _ _ _ _ _ _ (by first | exact HU.out.at_ S | exact HP.out.at_ S) (by first | exact HV.out.at_ S | exact HQ.out.at_ S) (by first | exact h1 | exact h2)) ?_; clear S; intro w S))
      go_wp2_with (first | (refine qst HL S 0 ?_; clear F S HL; intro w L HL S F))
      refine ret3 rfl (resCell S HL 0 rfl rfl (by kernel_rfl)) (show _ = _ from rfl) (show _ = _ from rfl) rfl ?_
      exact ⟨_, _, _, rfl, S.nilScl _⟩
    | true =>
    have H1 := Lib.hid h1
    have H2 := Lib.hid h2
    rw [h1, h2] at hok'
    clear h1 h2
    cases h3 : seedOk seed with
    | false =>
      rw [h3] at CV
      clear hok' h3
      obtain ⟨L, HL, S⟩ := st_start w0; have F : True := trivial
      go_enter Tryz.func106, Tryz.ntmps106
      go_upto_region 1 with (first | (refine qbx HL S ?_; clear F S HL; intro g w L HL S F) | (refine qal HL S zSMx ?_; clear F S HL; intro g w L HL S F))
      go_upto_region 2 with (first | (go_at_call 52; refine qPu (CV _) ?_) | (go_at_call 72; refine qGr S (C_impl_SharedMatrixValid _ _ _ _ _ _ _ _ _ _ (by first | exact HU.out.at_ S | exact HP.out.at_ S) (by first | exact HV.out.at_ S | exact HQ.out.at_ S) (by first | exact H1.out | exact H2.out)) ?_; clear S; intro w S))
      go_wp2_with (first | (refine qst HL S 0 ?_; clear F S HL; intro w L HL S F))
      refine ret3 rfl (resCell S HL 0 rfl rfl (by kernel_rfl)) (show _ = _ from rfl) (show _ = _ from rfl) rfl ?_
      exact ⟨_, _, _, rfl, S.nilScl _⟩
    | true =>
    rw [h3] at CV hok'
    clear h3
    by_cases h4 : cc = 1
    · subst h4
      have h5 : ¬ rc = r := fun h => hok' (by simp [h])
      clear hok'
      have hne : (rc == r) = false := by rw [beq_eq_false_iff_ne]; exact h5
      obtain ⟨L, HL, S⟩ := st_start w0; have F : True := trivial
      go_enter Tryz.func106, Tryz.ntmps106
      go_upto_region 1 with (first | (refine qbx HL S ?_; clear F S HL; intro g w L HL S F) | (refine qal HL S zSMx ?_; clear F S HL; intro g w L HL S F))
      go_upto_region 2 with (first | (go_at_call 52; refine qPu (CV _) ?_) | (go_at_call 72; refine qGr S (C_impl_SharedMatrixValid _ _ _ _ _ _ _ _ _ _ (by first | exact HU.out.at_ S | exact HP.out.at_ S) (by first | exact HV.out.at_ S | exact HQ.out.at_ S) (by first | exact H1.out | exact H2.out)) ?_; clear S; intro w S))
      go_wp2_with (first | (refine qst HL S 0 ?_; clear F S HL; intro w L HL S F))
      refine ret3 rfl (resCell S HL 0 rfl rfl (by kernel_rfl)) (show _ = _ from rfl) (show _ = _ from rfl) rfl ?_
      exact ⟨_, _, _, rfl, S.nilScl _⟩
    · clear hok'
      have hne : (cc == 1) = false := by rw [beq_eq_false_iff_ne]; exact h4
      obtain ⟨L, HL, S⟩ := st_start w0; have F : True := trivial
      go_enter Tryz.func106, Tryz.ntmps106
      go_upto_region 1 with (first | (refine qbx HL S ?_; clear F S HL; intro g w L HL S F) | (refine qal HL S zSMx ?_; clear F S HL; intro g w L HL S F))
      go_upto_region 2 with (first | (go_at_call 52; refine qPu (CV _) ?_) | (go_at_call 72; refine qGr S (C_impl_SharedMatrixValid _ _ _ _ _ _ _ _ _ _ (by first | exact HU.out.at_ S | exact HP.out.at_ S) (by first | exact HV.out.at_ S | exact HQ.out.at_ S) (by first | exact H1.out | exact H2.out)) ?_; clear S; intro w S))
      go_wp2_with (first | (refine qst HL S 0 ?_; clear F S HL; intro w L HL S F))
      refine ret3 rfl (resCell S HL 0 rfl rfl (by kernel_rfl)) (show _ = _ from rfl) (show _ = _ from rfl) rfl ?_
      exact ⟨_, _, _, rfl, S.nilScl _⟩
end
end Go.Proofs.YtjgfjfjboimgdaaGreat
