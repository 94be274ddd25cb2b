/- JnI JnS -/
import Derived.Test.YtjgfjfjboimgdaaGreatY34
import Derived.Test.YtjgfjfjboimgdaaGreatY38
namespace Go.Proofs.YtjgfjfjboimgdaaGreat
set_option linter.unusedSimpArgs false
set_option linter.unusedVariables false
set_option linter.unusedSectionVars false
open Go Go.RowKit
set_option maxHeartbeats 8000000
set_option maxRecDepth 20000
section
def lz : Value × Int × MsO := (.slice none 0 0, 0, [])
theorem made_ls : ∀ n : Nat, (madeCells #[Value.int .i64 0, Value.slice none 0 0] (n * 2)).toList = cellsL (List.replicate n lz)
  | 0 => by simp [madeCells, cellsL]
  | n + 1 => by
    have e : (madeCells #[Value.int .i64 0, Value.slice none 0 0] ((n + 1) * 2)).toList = (madeCells #[Value.int .i64 0, Value.slice none 0 0] (n * 2)).toList ++ [.int .i64 0, .slice none 0 0] := by
      unfold madeCells
      simp only [Array.toList_map, Array.toList_range]
      rw [show (n + 1) * 2 = n * 2 + 1 + 1 by omega, List.range_succ, List.range_succ, List.map_append, List.map_append]
      have h1 : n * 2 % 2 = 0 := by omega
      have h2 : (n * 2 + 1) % 2 = 1 := by omega
      simp [h1, h2]
    rw [e, made_ls n, List.replicate_succ', cellsL_add]
    rfl
theorem mid_at {A R : List Value} {x y : Value} {k : Nat} (h : A.length = k * 2) : (A ++ (x :: y :: R))[k * 2]? = some x ∧ (A ++ (x :: y :: R))[k * 2 + 1]? = some y := by
  constructor
  · rw [List.getElem?_append_right (by omega), h, Nat.sub_self]; rfl
  · rw [List.getElem?_append_right (by omega), h, Nat.add_sub_cancel_left]; rfl
theorem mid_one {A R : List Value} {x y z : Value} {k : Nat} (h : A.length = k * 2) : splice (A ++ (x :: y :: R)) (k * 2) [z] = A ++ (z :: y :: R) := by
  rw [splice_app _ _ _ _ h]
  simp
theorem mid_two {A R : List Value} {x y z : Value} {k : Nat} (h : A.length = k * 2) : splice (A ++ (x :: y :: R)) (k * 2 + 1) [z] = A ++ (x :: z :: R) := by
  have e : A ++ (x :: y :: R) = (A ++ [x]) ++ (y :: R) := by simp
  rw [e, splice_app _ _ _ _ (by rw [List.length_append, h]; rfl)]
  simp
theorem jn_perm (t m l : Ent) (A B : List Ent) : (t :: m :: l :: (A ++ B)).Perm (m :: l :: ((A ++ [t]) ++ B)) := by
  rw [List.append_assoc]
  exact (List.perm_append_comm_assoc [t] [m, l] (A ++ B)).trans ((((List.perm_append_comm_assoc [t] A B)).cons l).cons m)
theorem jn_perm2 (m l : Ent) (A B : List Ent) : (m :: l :: (A ++ B)).Perm (l :: (B ++ (m :: A))) :=
  (List.Perm.swap _ _ _).trans (.cons _ (List.perm_append_comm (l₁ := m :: A) (l₂ := B)))
namespace RB
theorem C_impl_JoinNet (v : Value) (ls : List SLy) (b : Bool) (js : List Ly) (w0 : World) (h : SeesSLs w0 v ls) (hx : ∀ l ∈ ls, l.ws.length ≤ 1048576) (hj : joinRes ls = (b, js)) :
    Calls Tryz.prog 37 #[v] w0 fun e w => ∃ u qs, e = .returned (.tuple #[u, .bool b]) ∧ qs.map lyO = js ∧ St w0 w (entsL u qs) := by
  obtain ⟨A, cap, rfl, hcap, hmax, hA⟩ := h
  obtain ⟨n, hn⟩ : ∃ n, ls.length = n := ⟨_, rfl⟩
  rw [hn] at hcap hA ⊢
  have HN := Lib.hid hn
  have HA := Lib.hid hA
  have HX := Lib.hid hx
  unfold maxLen at hmax
  by_cases h4 : n ≤ 4
  · have HJ := Lib.hid hj
    clear hA hn hj hx
    obtain ⟨L, HL, S⟩ := st_start w0; have F : True := trivial
    go_enter Tryz.func37, Tryz.ntmps37
    go_upto_region 4 with (at_make; refine wpList_make rfl S _ _ _ rfl 51 _ 2 32 Tryz.underlying66 infoLy _ n rfl rfl rfl (by omega) (by simp only [maxLen]; omega) ?_; clear F S; intro g w L hM S; replace HL := qNm HL hM; clear hM; have F := qFc HL S)
    rw [made_ls] at HL
    go_wp2
    go_loopw [17] (fun i wr => ∃ (k : Nat) (qs : LsO) (L : List Ent), k ≤ n ∧ i = .int .i64 k ∧ Hid (qs.map lyO = (ls.take k).map joinLy) ∧ Hid (∀ q l, q < k → ls[q]? = some l → (joinLy l).ok = true) ∧ Hid (L = .row 51 2 (.slice (some ⟨g, 0, none⟩) n n) n (cellsL qs ++ cellsL (List.replicate (n - k) lz)) :: rowsL qs) ∧ St w0 wr L) (fun i _ => n - (intOf i).toNat)
    case atStart => exact ⟨0, [], L, Nat.zero_le _, rfl, Lib.hid rfl, Lib.hid (fun q l h => absurd h (by omega)), Lib.hid HL.out, S⟩
    case round =>
      clear F HL S
      obtain ⟨k, qs, L, hk, rfl, HP, HOK, HL, S⟩ := hrel
      have F : True := trivial
      have hpl : qs.length = k := by
        have := congrArg List.length HP.out
        rw [List.length_map, List.length_map, List.length_take, HN.out] at this
        omega
      by_cases hlt : k < n
      · obtain ⟨b0, off, rfl, hb, hc⟩ := HA.out (by omega)
        obtain ⟨l, hm⟩ := some_at HN.out hlt
        obtain ⟨kind, ms⟩ := l
        obtain ⟨x, c1, c2, hu⟩ := hc k _ hm
        dsimp only at c1 c2 hu
        have hml := HX.out _ (List.mem_of_getElem? hm)
        dsimp only at hml
        obtain ⟨m, hmm⟩ : ∃ m, ms.length = m := ⟨_, rfl⟩
        obtain ⟨A', cap', rfl, hcap', hmax', hA'⟩ := hu
        rw [hmm] at hcap' hA' hml c2
        have HM := Lib.hid hmm
        have HA' := Lib.hid hA'
        have HG := Lib.hid hm
        have hcl := cellsL_len qs
        rw [hpl] at hcl
        have HC := Lib.hid hcl
        have HPL := Lib.hid hpl
        have hrep : List.replicate (n - k) lz = lz :: List.replicate (n - (k + 1)) lz := by
          rw [show n - k = (n - (k + 1)) + 1 by omega]; rfl
        rw [HL.out, hrep] at S
        have T : St w0 wr (.row 51 2 (.slice (some ⟨g, 0, none⟩) n n) n (cellsL qs ++ (.int .i64 0 :: .slice none 0 0 :: cellsL (List.replicate (n - (k + 1)) lz))) :: rowsL qs) := S
        clear S HL F hrep hA' hmm hc hm hcl hpl
        obtain ⟨R, hR⟩ : ∃ R, cellsL (List.replicate (n - (k + 1)) lz) = R := ⟨_, rfl⟩
        rw [hR] at T
        have HR := Lib.hid hR
        clear hR
        have S := T
        clear T
        obtain ⟨L, hM, T⟩ := st_name S; clear S; have S := T; clear T; have HL := Lib.hid hM; clear hM; have F := qFc HL S
        have f1 := fun w' (S' : St w0 w' L) => (S'.below.cell (p := ⟨b0, off + k * 2, none⟩) hb).trans c1
        have f2 := fun w' (S' : St w0 w' L) => (S'.below.cell (p := ⟨b0, off + k * 2 + 1, none⟩) hb).trans c2
        clear c1 c2
        have hk2 : k * 2 + 2 ≤ n * 2 := by omega
        unfold maxLen at hmax'
        go_upto_region 7 with (first | (refine qal HL S zSLy ?_; clear F S HL; intro gl w L HL S F) | (refine qst HL S 0 ?_; clear F S HL; intro w L HL S F))
        clear f1 f2
        go_upto_region 8 with (first | (refine wpList_store_rowS rfl S _ _ _ rfl 1 _ _ _ _ _ _ _ (atOf HL rfl) rfl ([.int .i64 kind]) rfl (by kernel_rfl) rfl (show _ + 1 ≤ _ from by omega) ?_; clear F S; intro w L hM S; replace HL := qNr HL hM; clear hM; have F := qFc HL S))
        rw [mid_one HC.out] at HL
        go_wp2
        rw [HL.out] at S
        have T := (S.sub (.cons _ (.refl _))).nilRow 30 3
        clear S HL F
        have S := T
        clear T
        obtain ⟨L, hM, T⟩ := st_name S; clear S; have S := T; clear T; have HL := Lib.hid hM; clear hM; have F := qFc HL S
        go_loopw [31] (fun i wr => ∃ (j : Nat) (ps : MsO) (u : Value) (L : List Ent), j ≤ m ∧ i = .int .i64 j ∧ Hid (ps.map Prod.snd = (ms.take j).map joinMx) ∧ Hid (L = .row 30 3 u j (cellsM ps) :: .row 51 2 (.slice (some ⟨g, 0, none⟩) n n) n (cellsL qs ++ (.int .i64 kind :: u :: R)) :: (rowsM ps ++ rowsL qs)) ∧ St w0 wr L) (fun i _ => m - (intOf i).toNat)
        case atStart => exact ⟨0, [], _, L, Nat.zero_le _, rfl, Lib.hid rfl, Lib.hid HL.out, S⟩
        case round =>
          clear F HL S
          obtain ⟨j, ps, u, L, hj, rfl, HP2, HL, S⟩ := hrel
          have hps : ps.length = j := by
            have := congrArg List.length HP2.out
            rw [List.length_map, List.length_map, List.length_take, HM.out] at this
            omega
          have HPS := Lib.hid hps
          clear hps
          have F : True := trivial
          obtain ⟨Au, cu, rfl, hcu, hmu⟩ := qSl HL S 0
          by_cases hlt2 : j < m
          · obtain ⟨b', off', rfl, hb', hc'⟩ := HA'.out (by omega)
            obtain ⟨mm, hm2⟩ := some_at HM.out hlt2
            obtain ⟨⟨r, c, xs⟩, ⟨r', c', ys⟩⟩ := mm
            obtain ⟨x1, x2, d1, d2, d3, d4, d5, d6, hx1, hx2⟩ := hc' j _ hm2
            dsimp only at d1 d2 d3 d4 d5 d6 hx1 hx2
            have H1 := Lib.hid hx1
            have H2 := Lib.hid hx2
            obtain ⟨-, A1, k1, rfl, hk1, hm1, -⟩ := hx1
            obtain ⟨-, A2, k2, rfl, hk2', hm2', -⟩ := hx2
            have hp' := take_at hm2
            have e1 : ((ms.take (j + 1)).map joinMx) = (ms.take j).map joinMx ++ [sumMx ⟨r, c, xs⟩ ⟨r', c', ys⟩] := by rw [hp', List.map_append]; rfl
            obtain ⟨t, ht⟩ : ∃ t, sumMx ⟨r, c, xs⟩ ⟨r', c', ys⟩ = t := ⟨_, rfl⟩
            rw [← HP2.out, ht] at e1
            have HP3 := Lib.hid e1
            have CJ := fun w h h' => C_impl_JoinL r c xs r' c' ys (.slice A1 xs.length k1) (.slice A2 ys.length k2) t w h h' ht
            unfold MakesMx at CJ
            obtain ⟨tr, tc, ts⟩ := t
            dsimp only at CJ
            have g1 := fun w' (S' : St w0 w' L) => (S'.below.cell (p := ⟨b', off' + j * 6, none⟩) hb').trans d1
            have g2 := fun w' (S' : St w0 w' L) => (S'.below.cell (p := ⟨b', off' + j * 6 + 1, none⟩) hb').trans d2
            have g3 := fun w' (S' : St w0 w' L) => (S'.below.cell (p := ⟨b', off' + j * 6 + 2, none⟩) hb').trans d3
            have g4 := fun w' (S' : St w0 w' L) => (S'.below.cell (p := ⟨b', off' + j * 6 + 3, none⟩) hb').trans d4
            have g5 := fun w' (S' : St w0 w' L) => (S'.below.cell (p := ⟨b', off' + j * 6 + 4, none⟩) hb').trans d5
            have g6 := fun w' (S' : St w0 w' L) => (S'.below.cell (p := ⟨b', off' + j * 6 + 5, none⟩) hb').trans d6
            clear hc' d1 d2 d3 d4 d5 d6 hm2 hp' e1 ht
            have X0 : Hid ((cellsL qs ++ (.int .i64 kind :: .slice Au j cu :: R))[k * 2 + 1]? = some (.slice Au j cu)) := Lib.hid (mid_at HC.out).2
            go_upto_region 11 with (first | (refine qal HL S zSMx ?_; clear F S HL; intro gm w L HL S F) | (refine qst HL S 0 ?_; clear F S HL; intro w L HL S F))
            clear g1 g2 g3 g4 g5 g6
            rw [HL.out] at S
            have T := S.perm (.swap _ _ _)
            clear S HL F
            have S := T
            clear T
            obtain ⟨L, hM, T⟩ := st_name S; clear S; have S := T; clear T; have HL := Lib.hid hM; clear hM; have F := qFc HL S
            have hT := congrArg List.tail HL.out; simp only [List.tail_cons] at hT; obtain ⟨L1, hL1⟩ : ∃ M, M = L.tail := ⟨_, rfl⟩; rw [← hL1] at hT; have HL0 := Lib.hid hT; have S1 := S.sub (List.tail_sublist L); rw [← hL1] at S1; have F0 := qFc HL0 S1; clear S1 hL1 hT; (have f0 := fun w' (S' : St w0 w' L1) => (S'.rowCell (p := 1) (atOf HL0 rfl) (k * 2 + 1) (by omega)).trans X0.out); refine wp_region_tree (S := fun w' => St w0 w' L1) (qcs 0 8 (.act 8 (.act 9 (.act 10 (.calm 11 (.calm 12 (.act 13 .fin .stop))) .stop) .stop) .stop)) (by kernel_rfl) (by kernel_rfl) (by kernel_rfl) (by intro c a d v w h; cases d <;> exact h) ?_; dsimp only [qcs, Nat.reduceAdd]; replace S := S.drew
            repeat (first | refine qCa ?_ | refine qAn ?_ | refine qSk ?_ | (refine tree_act rfl rfl ?_ tree_stop; intro K hK; (refine wp_litX S _ _ rfl 30 Tryz.underlying49 infoMx _ _ _ rfl ?_; clear F S; intro g w L hM S; replace HL := qNm HL hM; clear hM; have F := qFc HL S); (refine qKo hK ?_; clear hK K)) | (refine tree_act rfl rfl ?_ tree_stop; intro K hK; (refine wp_append_boxB S _ _ _ rfl 30 _ 3 40 Tryz.underlying49 infoMx rfl (by omega) 2 _ _ _ rfl (atOf HL rfl) (by omega) 0 _ _ _ _ _ rfl (atOf HL rfl) rfl rfl rfl rfl ?_; clear F S; intro u w L hM S; replace HL := qNm HL hM; clear hM; have F := qFc HL S; obtain ⟨Au2, cu2, rfl, hcu2, hmu2⟩ := qSl HL S 2); (refine qKo hK ?_; clear hK K)) | (refine tree_act rfl rfl ?_ tree_stop; intro K hK; (refine wp_store_rowS S _ _ _ rfl 4 _ _ _ _ _ _ _ (atOf HL rfl) rfl ([.slice Au2 (j + 1) cu2]) rfl (by kernel_rfl) rfl (show _ + 1 ≤ _ from by omega) ?_; clear F S; intro w L hM S; replace HL := qNr HL hM; clear hM; have F := qFc HL S); (refine qKo hK ?_; clear hK K)) | (refine tree_act rfl rfl ?_ tree_stop; intro K hK; go_wp2_with (first | (go_at_call 27; refine (CJ _ (H1.out.at_ S) (H2.out.at_ S)).mono ?_; rintro e w ⟨u, rfl, T0⟩; have hX := qcl HL S T0; clear F S HL T0; obtain ⟨L, HL, S, F⟩ := hX; obtain ⟨A', cap', rfl, hcap', hmax'⟩ := qSl HL S 0)); (refine qKo hK ?_; clear hK K)))
            refine tree_fin ?_
            clear HL0 F0 f0
            go_wp2
            go_roundw
            case rel =>
              rw [HL.out, mid_two HC.out] at S
              have T := (S.sub (.cons _ (.cons_cons _ (.cons_cons _ (.cons _ (.refl _)))))).perm (jn_perm _ _ _ _ _)
              exact ⟨j + 1, ps ++ [(_, ⟨tr, tc, ts⟩)], _, _, by omega, by go_num, Lib.hid (by rw [HP3.out, List.map_append]; rfl), Lib.hid (by rw [cellsM_add, rowsM_add]; rfl), T⟩
            case measure => simp [intOf]; omega
          · obtain rfl : j = m := by omega
            have hsn : ps.map Prod.snd = (joinLy ⟨kind, ms⟩).ws := by
              rw [HP2.out, List.take_of_length_le (Nat.le_of_eq HM.out)]; rfl
            have hse := sees_ms S (u := .slice Au j cu) (ps := ps) (by
              rw [HL.out]
              unfold entsM
              rw [HPS.out]
              intro e he
              rcases List.mem_cons.1 he with rfl | he
              · exact List.mem_cons_self
              · exact List.mem_cons_of_mem _ (List.mem_cons_of_mem _ (List.mem_append_left _ he)))
            rw [hsn] at hse
            have HSE := Lib.hid hse
            have hmid := mid_at (A := cellsL qs) (x := .int .i64 kind) (y := .slice Au j cu) (R := R) HC.out
            have f0 := fun w' (S' : St w0 w' L) => (S'.rowCell (p := 1) (atOf HL rfl) (k * 2) (by omega)).trans hmid.1
            have f1 := fun w' (S' : St w0 w' L) => (S'.rowCell (p := 1) (atOf HL rfl) (k * 2 + 1) (by omega)).trans hmid.2
            clear hsn hse hmid
            cases hok : (joinLy ⟨kind, ms⟩).ok with
            | false =>
              have CL := C_impl_LayerValid (.slice Au j cu) (joinLy ⟨kind, ms⟩) false wr wr (Below.refl _ _) HSE.out hok
              obtain ⟨rfl, rfl⟩ : b = false ∧ js = [] := by
                have := HJ.out
                rw [joinRes_bad HG.out hok] at this
                injection this with e1 e2
                exact ⟨e1.symm, e2.symm⟩
              go_wp2_with (first | (go_at_call 84; refine qGr S (CL) ?_; clear S; intro w S))
              refine ret2 rfl (show _ = _ from rfl) (show _ = _ from rfl) rfl ?_
              exact ⟨_, [], rfl, rfl, (S.nilRow 51 2).sub (.cons_cons _ (List.nil_sublist _))⟩
            | true =>
              have CL := C_impl_LayerValid (.slice Au j cu) (joinLy ⟨kind, ms⟩) true wr wr (Below.refl _ _) HSE.out hok
              have HOKN := Lib.hid hok
              clear hok
              go_wp2_with (first | (go_at_call 84; refine qGr S (CL) ?_; clear S; intro w S))
              go_roundw
              case rel =>
                rw [HL.out] at S
                have T := S.perm (jn_perm2 _ _ _ _)
                refine ⟨k + 1, qs ++ [(.slice Au j cu, kind, ps)], _, by omega, by go_num, Lib.hid ?_, Lib.hid ?_, Lib.hid rfl, ?_⟩
                · rw [List.map_append, HP.out, take_at HG.out, List.map_append]
                  have e : lyO (.slice Au j cu, kind, ps) = joinLy ⟨kind, ms⟩ := by
                    show Ly.mk kind (ps.map Prod.snd) = Ly.mk kind (ms.map joinMx)
                    rw [HP2.out, List.take_of_length_le (Nat.le_of_eq HM.out)]
                  show _ ++ [lyO (.slice Au j cu, kind, ps)] = _
                  rw [e]
                  rfl
                · intro q l hq hl
                  by_cases h : q = k
                  · subst h
                    rw [HG.out] at hl
                    injection hl with hl
                    subst hl
                    exact HOKN.out
                  · exact HOK.out q l (by omega) hl
                · have e1 : cellsL (qs ++ [(Value.slice Au j cu, kind, ps)]) ++ cellsL (List.replicate (n - (k + 1)) lz) = cellsL qs ++ (.int .i64 kind :: .slice Au j cu :: R) := by
                    rw [HR.out, cellsL_add, List.append_assoc]; rfl
                  have e2 : rowsL (qs ++ [(Value.slice Au j cu, kind, ps)]) = rowsL qs ++ (.row 30 3 (.slice Au j cu) j (cellsM ps) :: rowsM ps) := by
                    rw [rowsL_add]
                    show rowsL qs ++ (entsM (.slice Au j cu) ps ++ []) = _
                    rw [List.append_nil]
                    unfold entsM
                    rw [HPS.out]
                  rw [e1, e2]
                  exact T
              case measure => simp [intOf]; omega
      · obtain rfl : k = n := by omega
        have he : joinRes ls = (true, ls.map joinLy) := joinRes_ok (by rw [HN.out]; exact h4) (by rw [HN.out]; exact HOK.out)
        obtain ⟨rfl, rfl⟩ : b = true ∧ js = ls.map joinLy := by
          have := HJ.out
          rw [he] at this
          injection this with e1 e2
          exact ⟨e1.symm, e2.symm⟩
        clear he
        go_wp2
        refine ret2 rfl (show _ = _ from rfl) (show _ = _ from rfl) rfl ?_
        rw [HL.out, Nat.sub_self] at S
        have T : St w0 wr (.row 51 2 (.slice (some ⟨g, 0, none⟩) k k) k (cellsL qs ++ []) :: rowsL qs) := S
        rw [List.append_nil] at T
        refine ⟨_, qs, rfl, ?_, ?_⟩
        · rw [HP.out, List.take_of_length_le (Nat.le_of_eq HN.out)]
        · unfold entsL
          rw [hpl]
          exact T
  · obtain ⟨rfl, rfl⟩ : b = false ∧ js = [] := by
      rw [joinRes_many (by rw [hn]; exact h4)] at hj
      injection hj with e1 e2
      exact ⟨e1.symm, e2.symm⟩
    clear hA hn hj hx HA HX
    obtain ⟨L, HL, S⟩ := st_start w0; have F : True := trivial
    go_enter Tryz.func37, Tryz.ntmps37
    go_wp2_with (first | (refine qbx HL S ?_; clear F S HL; intro g w L HL S F)  | (refine qst HL S 0 ?_; clear F S HL; intro w L HL S F) | (refine qst HL S 1 ?_; clear F S HL; intro w L HL S F) | (refine qst HL S 2 ?_; clear F S HL; intro w L HL S F) | (refine qst HL S 3 ?_; clear F S HL; intro w L HL S F)  )
    refine ret2 rfl (show _ = _ from rfl) (show _ = _ from rfl) rfl ?_
    exact ⟨_, [], rfl, rfl, (S.nilRow 51 2).sub (.cons_cons _ (List.nil_sublist _))⟩
end RB
end
section
theorem St.rebase {w0 w1 w : World} {L : List Ent} (hb : Below w0.heap.size w0 w1) (T : St w1 w L) : St w0 w L :=
  ⟨hb.trans (T.below.mono hb.size), fun e he => Ent.holds_base (T.own e he) hb.size, T.apart⟩
theorem jn_perm4 (m o : Ent) (A B : List Ent) : (m :: o :: (A ++ B)).Perm (o :: (B ++ (m :: A))) := jn_perm2 m o A B
theorem C_spec_JoinNet (v : Value) (ls : List SLy) (b : Bool) (js : List Ly) (wz : World) (h : SeesSLs wz v ls) (hn0 : ls.length ≤ 1048576) (hx : ∀ l ∈ ls, SLySmall 1048576 l) (hj : joinRes ls = (b, js)) :
    Calls Tryz.prog 78 #[v] wz fun e w => ∃ u qs, e = .returned (.tuple #[u, .bool b]) ∧ qs.map lyO = js ∧ St wz w (entsL u qs) := by
  have H := Lib.hid h
  have HX := Lib.hid hx
  have HJ := Lib.hid hj
  obtain ⟨A, cap, rfl, hcap, hmax, _⟩ := h
  clear hx hj
  obtain ⟨L, HL, S⟩ := st_start wz; have F : True := trivial
  go_enter Tryz.func78, Tryz.ntmps78
  go_upto_region 2 with (first | (go_at_call 77; refine (C_l1OwnSharedLayerList _ ls _ (H.out.at_ S) hn0 HX.out).mono ?_; rintro e w0 ⟨u0, qs0, rfl, hqs, T0⟩; have HS := Lib.hid (hqs ▸ sees_sls T0 (fun e he => he) : SeesSLs w0 u0 ls); have HBB := Lib.hid (S.below.trans (T0.below.mono S.below.size)); clear S HL F T0 hqs; obtain ⟨L, HL, S⟩ := st_start w0; have F : True := trivial))
  obtain ⟨A0, c0, rfl, hc0, hm0, hA⟩ := HS.out
  clear HS H hcap hmax
  obtain ⟨n, hn⟩ : ∃ n, ls.length = n := ⟨_, rfl⟩
  rw [hn] at hc0 hA hn0
  (try rw [hn])
  have HN := Lib.hid hn
  have HA := Lib.hid hA
  clear hA hn
  unfold maxLen at hm0
  go_upto_region 3 with (refine wpList_empty rfl S _ rfl 51 Tryz.underlying66 infoLy ?_; clear F S; intro g w L hM S; replace HL := qNm HL hM; clear hM; have F := qFc HL S)
  go_wp2
  go_loopw [5, 4] (fun i o wr => ∃ (k : Nat) (u : Value) (qs : LsO) (L : List Ent), k ≤ n ∧ i = .int .i64 k ∧ o = u ∧ Hid (0 < k → n ≤ 4) ∧ Hid (qs.map lyO = (ls.take k).map joinLy) ∧ Hid (∀ q l, q < k → ls[q]? = some l → (joinLy l).ok = true) ∧ Hid (L = .row 51 2 u k (cellsL qs) :: rowsL qs) ∧ St w0 wr L) (fun i _ _ => n - (intOf i).toNat)
  case atStart => exact ⟨0, _, [], L, Nat.zero_le _, rfl, rfl, Lib.hid (fun h => absurd h (by omega)), Lib.hid rfl, Lib.hid (fun q l h => absurd h (by omega)), Lib.hid HL.out, S⟩
  case round =>
    clear F HL S
    obtain ⟨k, uo, qs, L, hk, rfl, rfl, H4, HP, HOK, HL, S⟩ := hrel
    have F : True := trivial
    have hpl : qs.length = k := by
      have := congrArg List.length HP.out
      rw [List.length_map, List.length_map, List.length_take, HN.out] at this
      omega
    have HPL := Lib.hid hpl
    clear hpl
    by_cases hlt : k < n
    · obtain ⟨b0, off, rfl, hb, hc⟩ := HA.out (by omega)
      obtain ⟨l, hm⟩ := some_at HN.out hlt
      obtain ⟨kind, ms⟩ := l
      obtain ⟨x, c1, c2, hu⟩ := hc k _ hm
      dsimp only at c1 c2 hu
      obtain ⟨hml, hsm⟩ := HX.out _ (List.mem_of_getElem? hm)
      dsimp only at hml hsm
      have HSM := Lib.hid hsm
      obtain ⟨m, hmm⟩ : ∃ m, ms.length = m := ⟨_, rfl⟩
      obtain ⟨A', cap', rfl, hcap', hmax', hA'⟩ := hu
      rw [hmm] at hcap' hA' hml c2
      have HM := Lib.hid hmm
      have HA' := Lib.hid hA'
      have HG := Lib.hid hm
      clear hA' hmm hc hm hsm
      obtain ⟨Ao, co, rfl, hco, hmo⟩ := qSl HL S 0
      have f1 := fun w' (S' : St w0 w' L) => (S'.below.cell (p := ⟨b0, off + k * 2, none⟩) hb).trans c1
      have C2 := Lib.hid c2
      clear c1 c2
      unfold maxLen at hmax'
      go_upto_region 7 with (first | (refine qal HL S zLy ?_; clear F S HL; intro gl w L HL S F) | (refine qst HL S 0 ?_; clear F S HL; intro w L HL S F))
      clear f1
      go_wp2
      rw [HL.out] at S
      have T := S.nilRow 30 3
      clear S HL F
      have S := T
      clear T
      obtain ⟨L, hM, T⟩ := st_name S; clear S; have S := T; clear T; have HL := Lib.hid hM; clear hM; have F := qFc HL S
      go_loopw [7] (fun i wr => ∃ (j : Nat) (ps : MsO) (u : Value) (L : List Ent), j ≤ m ∧ i = .int .i64 j ∧ Hid (ps.map Prod.snd = (ms.take j).map joinMx) ∧ Hid (L = .row 30 3 u j (cellsM ps) :: .box gl 51 [.int .i64 kind, u] :: .row 51 2 (.slice Ao k co) k (cellsL qs) :: (rowsM ps ++ rowsL qs)) ∧ St w0 wr L) (fun i _ => m - (intOf i).toNat)
      case atStart => exact ⟨0, [], _, L, Nat.zero_le _, rfl, Lib.hid rfl, Lib.hid HL.out, S⟩
      case round =>
        clear F HL S
        obtain ⟨j, ps, u, L, hj, rfl, HP2, HL, S⟩ := hrel
        have hps : ps.length = j := by
          have := congrArg List.length HP2.out
          rw [List.length_map, List.length_map, List.length_take, HM.out] at this
          omega
        have HPS := Lib.hid hps
        clear hps
        obtain ⟨Au, cu, rfl, hcu, hmu⟩ := qSl HL S 0
        have F := factsAll HL S
        simp only [factsOf, cellsFrom, and_true, true_and, Nat.reduceAdd] at F
        have f2 := fun w' (S' : St w0 w' L) => (S'.below.cell (p := ⟨b0, off + k * 2 + 1, none⟩) hb).trans C2.out
        by_cases hlt2 : j < m
        · obtain ⟨b', off', rfl, hb', hc'⟩ := HA'.out (by omega)
          obtain ⟨mm, hm2⟩ := some_at HM.out hlt2
          obtain ⟨⟨r, c, xs⟩, ⟨r', c', ys⟩⟩ := mm
          obtain ⟨hsx, hsy⟩ := HSM.out _ (List.mem_of_getElem? hm2)
          dsimp only at hsx hsy
          obtain ⟨x1, x2, d1, d2, d3, d4, d5, d6, hx1, hx2⟩ := hc' j _ hm2
          dsimp only at d1 d2 d3 d4 d5 d6 hx1 hx2
          have H1 := Lib.hid hx1
          have H2 := Lib.hid hx2
          obtain ⟨-, A1, k1, rfl, hk1, hm1, -⟩ := hx1
          obtain ⟨-, A2, k2, rfl, hk2', hm2', -⟩ := hx2
          have hp' := take_at hm2
          have e1 : ((ms.take (j + 1)).map joinMx) = (ms.take j).map joinMx ++ [sumMx ⟨r, c, xs⟩ ⟨r', c', ys⟩] := by rw [hp', List.map_append]; rfl
          obtain ⟨t, ht⟩ : ∃ t, sumMx ⟨r, c, xs⟩ ⟨r', c', ys⟩ = t := ⟨_, rfl⟩
          rw [← HP2.out, ht] at e1
          have HP3 := Lib.hid e1
          have CJ := fun w h h' => C_spec_JoinL r c xs r' c' ys (.slice A1 xs.length k1) (.slice A2 ys.length k2) t w h h' hsx hsy ht
          unfold MakesMx at CJ
          obtain ⟨tr, tc, ts⟩ := t
          dsimp only at CJ
          have D1 := Lib.hid d1
          have D2 := Lib.hid d2
          have D3 := Lib.hid d3
          have D4 := Lib.hid d4
          have D5 := Lib.hid d5
          have D6 := Lib.hid d6
          clear hc' d1 d2 d3 d4 d5 d6 hm2 hp' e1 ht
          go_upto_region 10 with fail
          clear f2
          have hT := congrArg List.tail HL.out; simp only [List.tail_cons] at hT; obtain ⟨L1, hL1⟩ : ∃ M, M = L.tail := ⟨_, rfl⟩; rw [← hL1] at hT; have HL0 := Lib.hid hT; have S1 := S.sub (List.tail_sublist L); rw [← hL1] at S1; have F0 := qFc HL0 S1; clear S1 hL1 hT; (have f2 := fun w' (S' : St w0 w' L1) => (S'.below.cell (p := ⟨b0, off + k * 2 + 1, none⟩) hb).trans C2.out); (have g1 := fun w' (S' : St w0 w' L1) => (S'.below.cell (p := ⟨b', off' + j * 6, none⟩) hb').trans D1.out); (have g2 := fun w' (S' : St w0 w' L1) => (S'.below.cell (p := ⟨b', off' + j * 6 + 1, none⟩) hb').trans D2.out); (have g3 := fun w' (S' : St w0 w' L1) => (S'.below.cell (p := ⟨b', off' + j * 6 + 2, none⟩) hb').trans D3.out); (have g4 := fun w' (S' : St w0 w' L1) => (S'.below.cell (p := ⟨b', off' + j * 6 + 3, none⟩) hb').trans D4.out); (have g5 := fun w' (S' : St w0 w' L1) => (S'.below.cell (p := ⟨b', off' + j * 6 + 4, none⟩) hb').trans D5.out); (have g6 := fun w' (S' : St w0 w' L1) => (S'.below.cell (p := ⟨b', off' + j * 6 + 5, none⟩) hb').trans D6.out); refine wp_region_tree (S := fun w' => St w0 w' L1) (qcs 0 10 (.act 10 (.act 11 (.act 12 (.calm 13 (.act 14 .fin .stop)) .stop) .stop) .stop)) (by kernel_rfl) (by kernel_rfl) (by kernel_rfl) (by intro c a d v w h; cases d <;> exact h) ?_; dsimp only [qcs, Nat.reduceAdd]; replace S := S.drew
          repeat (first | refine qCa ?_ | refine qAn ?_ | refine qSk ?_ | (refine tree_act rfl rfl ?_ tree_stop; intro K hK; (refine wp_litX S _ _ rfl 30 Tryz.underlying49 infoMx _ _ _ rfl ?_; clear F S; intro g w L hM S; replace HL := qNm HL hM; clear hM; have F := qFc HL S); (refine qKo hK ?_; clear hK K)) | (refine tree_act rfl rfl ?_ tree_stop; intro K hK; (refine wp_append_boxB S _ _ _ rfl 30 _ 3 40 Tryz.underlying49 infoMx rfl (by omega) 2 _ _ _ rfl (atOf HL rfl) (by omega) 0 _ _ _ _ _ rfl (atOf HL rfl) rfl rfl rfl rfl ?_; clear F S; intro u w L hM S; replace HL := qNm HL hM; clear hM; have F := qFc HL S; obtain ⟨Au2, cu2, rfl, hcu2, hmu2⟩ := qSl HL S 2); (refine qKo hK ?_; clear hK K)) | (refine tree_act rfl rfl ?_ tree_stop; intro K hK; (refine qsw HL S 3 ?_; clear F S HL; intro w L HL S F); (refine qKo hK ?_; clear hK K)) | (refine tree_act rfl rfl ?_ tree_stop; intro K hK; go_wp2_with (first | (go_at_call 122; refine (CJ _ (H1.out.at_ S) (H2.out.at_ S)).mono ?_; rintro e w ⟨u, rfl, T0⟩; have hX := qcl HL S T0; clear F S HL T0; obtain ⟨L, HL, S, F⟩ := hX; obtain ⟨A', cap', rfl, hcap', hmax'⟩ := qSl HL S 0)); (refine qKo hK ?_; clear hK K)))
          refine tree_fin ?_
          clear HL0 F0 f2 g1 g2 g3 g4 g5 g6
          go_wp2
          go_roundw
          case rel =>
            rw [HL.out] at S
            have T := (S.sub (.cons _ (.refl _))).perm (jn_perm3 _ _ _ _ _ _)
            exact ⟨j + 1, ps ++ [(_, ⟨tr, tc, ts⟩)], _, _, by omega, by go_num, Lib.hid (by rw [HP3.out, List.map_append]; rfl), Lib.hid (by rw [cellsM_add, rowsM_add]; rfl), T⟩
          case measure => simp [intOf]; omega
        · obtain rfl : j = m := by omega
          have hsn : ps.map Prod.snd = (joinLy ⟨kind, ms⟩).ws := by
            rw [HP2.out, List.take_of_length_le (Nat.le_of_eq HM.out)]; rfl
          have hse := fun w' (S' : St w0 w' L) => sees_ms S' (u := .slice Au j cu) (ps := ps) (by
            rw [HL.out]
            unfold entsM
            rw [HPS.out]
            intro e he
            rcases List.mem_cons.1 he with rfl | he
            · exact List.mem_cons_self
            · exact List.mem_cons_of_mem _ (List.mem_cons_of_mem _ (List.mem_cons_of_mem _ (List.mem_append_left _ he))))
          rw [hsn] at hse
          have HSE := Lib.hid hse
          clear hse hsn
          cases hok : (joinLy ⟨kind, ms⟩).ok with
          | false =>
            have CL := fun w h => C_spec_LayerValid (.slice Au j cu) kind (joinLy ⟨kind, ms⟩).ws false w h hok
            obtain ⟨rfl, rfl⟩ : b = false ∧ js = [] := by
              have := HJ.out
              rw [joinRes_bad HG.out hok] at this
              injection this with e1 e2
              exact ⟨e1.symm, e2.symm⟩
            go_wp2_with (first | (go_at_call 123; refine qGr S (CL _ (HSE.out _ S)) ?_; clear S; intro w S) | (refine wpList_empty rfl S _ rfl 51 Tryz.underlying66 infoLy ?_; clear F S; intro g w L hM S; replace HL := qNm HL hM; clear hM; have F := qFc HL S))
            refine ret2 rfl (show _ = _ from rfl) (show _ = _ from rfl) rfl ?_
            rw [HL.out] at S
            exact ⟨_, [], rfl, rfl, St.rebase HBB.out (S.sub (.cons_cons _ (List.nil_sublist _)))⟩
          | true =>
            have CL := fun w h => C_spec_LayerValid (.slice Au j cu) kind (joinLy ⟨kind, ms⟩).ws true w h hok
            have HOKN := Lib.hid hok
            clear hok
            by_cases h4 : n ≤ 4
            · go_upto_region 13 with (first | (go_at_call 123; refine qGr S (CL _ (HSE.out _ S)) ?_; clear S; intro w S))
              clear f2
              go_wp2_with (first | (refine wpList_litY rfl S _ _ rfl 51 Tryz.underlying66 infoLy _ _ rfl ?_; clear F S; intro g w L hM S; replace HL := qNm HL hM; clear hM; have F := qFc HL S) | (refine wpList_append_boxB rfl S _ _ _ rfl 51 _ 2 32 Tryz.underlying66 infoLy rfl (by omega) _ _ _ _ rfl qAt (by omega) _ _ _ _ _ _ rfl qAt rfl rfl rfl rfl ?_; clear F S; intro u w L hM S; replace HL := qNm HL hM; clear hM; have F := qFc HL S))
              go_roundw
              case rel =>
                rw [HL.out] at S
                have T := (S.sub (.cons _ (.cons_cons _ (.cons _ (.refl _))))).perm (jn_perm4 _ _ _ _)
                refine ⟨k + 1, _, qs ++ [(.slice Au j cu, kind, ps)], _, by omega, by go_num, rfl, Lib.hid (fun _ => h4), Lib.hid ?_, Lib.hid ?_, Lib.hid rfl, ?_⟩
                · rw [List.map_append, HP.out, take_at HG.out, List.map_append]
                  have e : lyO (.slice Au j cu, kind, ps) = joinLy ⟨kind, ms⟩ := by
                    show Ly.mk kind (ps.map Prod.snd) = Ly.mk kind (ms.map joinMx)
                    rw [HP2.out, List.take_of_length_le (Nat.le_of_eq HM.out)]
                  show _ ++ [lyO (.slice Au j cu, kind, ps)] = _
                  rw [e]
                  rfl
                · intro q l hq hl
                  by_cases h : q = k
                  · subst h
                    rw [HG.out] at hl
                    injection hl with hl
                    subst hl
                    exact HOKN.out
                  · exact HOK.out q l (by omega) hl
                · have e1 : cellsL (qs ++ [(Value.slice Au j cu, kind, ps)]) = cellsL qs ++ [.int .i64 kind, .slice Au j cu] := by
                    rw [cellsL_add]; rfl
                  have e2 : rowsL (qs ++ [(Value.slice Au j cu, kind, ps)]) = rowsL qs ++ (.row 30 3 (.slice Au j cu) j (cellsM ps) :: rowsM ps) := by
                    rw [rowsL_add]
                    show rowsL qs ++ (entsM (.slice Au j cu) ps ++ []) = _
                    rw [List.append_nil]
                    unfold entsM
                    rw [HPS.out]
                  rw [e1, e2]
                  exact T
              case measure => simp [intOf]; omega
            · obtain ⟨rfl, rfl⟩ : b = false ∧ js = [] := by
                have := HJ.out
                rw [joinRes_many (by rw [HN.out]; exact h4)] at this
                injection this with e1 e2
                exact ⟨e1.symm, e2.symm⟩
              go_wp2_with (first | (go_at_call 123; refine qGr S (CL _ (HSE.out _ S)) ?_; clear S; intro w S) | (refine wpList_empty rfl S _ rfl 51 Tryz.underlying66 infoLy ?_; clear F S; intro g w L hM S; replace HL := qNm HL hM; clear hM; have F := qFc HL S))
              refine ret2 rfl (show _ = _ from rfl) (show _ = _ from rfl) rfl ?_
              rw [HL.out] at S
              exact ⟨_, [], rfl, rfl, St.rebase HBB.out (S.sub (.cons_cons _ (List.nil_sublist _)))⟩
    · obtain rfl : k = n := by omega
      have h4 : k ≤ 4 := by
        rcases Nat.eq_zero_or_pos k with h0 | h0
        · omega
        · exact H4.out h0
      have he : joinRes ls = (true, ls.map joinLy) := joinRes_ok (by rw [HN.out]; exact h4) (by rw [HN.out]; exact HOK.out)
      obtain ⟨rfl, rfl⟩ : b = true ∧ js = ls.map joinLy := by
        have := HJ.out
        rw [he] at this
        injection this with e1 e2
        exact ⟨e1.symm, e2.symm⟩
      clear he
      go_wp2
      refine ret2 rfl (show _ = _ from rfl) (show _ = _ from rfl) rfl ?_
      rw [HL.out] at S
      refine ⟨_, qs, rfl, ?_, ?_⟩
      · rw [HP.out, List.take_of_length_le (Nat.le_of_eq HN.out)]
      · unfold entsL
        rw [HPL.out]
        exact St.rebase HBB.out S
end
end Go.Proofs.YtjgfjfjboimgdaaGreat
