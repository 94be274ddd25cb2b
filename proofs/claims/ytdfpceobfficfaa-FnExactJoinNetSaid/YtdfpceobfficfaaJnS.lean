/-
  Contract: JoinNet, the reference's.
-/
import Derived.Test.YtdfpceobfficfaaJnI
namespace Go.Proofs.Ytdfpceobfficfaa
set_option linter.unusedSimpArgs false
set_option linter.unusedVariables false
set_option linter.unusedSectionVars false
open Go Go.RowKit
set_option maxHeartbeats 8000000
set_option maxRecDepth 20000
theorem St.rebase {w0 w1 w : World} {L : List Ent} (hb : Below w0.heap.size w0 w1) (T : St w1 w L) : St w0 w L :=
  ⟨hb.trans (T.below.mono hb.size), fun e he => Ent.holds_base (T.own e he) hb.size, T.apart⟩
theorem jn_perm3 (t m l o : Ent) (A B : List Ent) : (t :: m :: l :: o :: (A ++ B)).Perm (m :: l :: o :: ((A ++ [t]) ++ B)) := by
  rw [List.append_assoc]
  exact (List.perm_append_comm_assoc [t] [m, l, o] (A ++ B)).trans (((((List.perm_append_comm_assoc [t] A B)).cons o).cons l).cons m)
theorem jn_perm4 (m o : Ent) (A B : List Ent) : (m :: o :: (A ++ B)).Perm (o :: (B ++ (m :: A))) := jn_perm2 m o A B
theorem C_spec_JoinNet (v : Value) (ls : List SLy) (b : Bool) (js : List Ly) (wz : World) (h : SeesSLs wz v ls) (hn0 : ls.length ≤ 1048576) (hx : ∀ l ∈ ls, SLySmall 1048576 l) (hj : joinRes ls = (b, js)) :
    Calls Try.prog 10 #[v] wz fun e w => ∃ u qs, e = .returned (.tuple #[u, .bool b]) ∧ qs.map lyO = js ∧ St wz w (entsL u qs) := by
  have H := Lib.hid h
  have HX := Lib.hid hx
  have HJ := Lib.hid hj
  obtain ⟨A, cap, rfl, hcap, hmax, _⟩ := h
  clear hx hj
  obtain ⟨L, HL, S⟩ := st_start wz; have F : True := trivial
  go_enter Try.func10, Try.ntmps10
  go_upto_region 2 with (first | (go_at_call 37; refine (C_l1OwnSharedLayerList _ ls _ (H.out.at_ S) hn0 HX.out).mono ?_; rintro e w0 ⟨u0, qs0, rfl, hqs, T0⟩; have HS := Lib.hid (hqs ▸ sees_sls T0 (fun e he => he) : SeesSLs w0 u0 ls); have HBB := Lib.hid (S.below.trans (T0.below.mono S.below.size)); clear S HL F T0 hqs; obtain ⟨L, HL, S⟩ := st_start w0; have F : True := trivial))
  obtain ⟨A0, c0, rfl, hc0, hm0, hA⟩ := HS.out
  clear HS H hcap hmax
  obtain ⟨n, hn⟩ : ∃ n, ls.length = n := ⟨_, rfl⟩
  rw [hn] at hc0 hA hn0
  (try rw [hn])
  have HN := Lib.hid hn
  have HA := Lib.hid hA
  clear hA hn
  unfold maxLen at hm0
  go_upto_region 3 with (refine wpList_empty rfl S _ rfl 33 Try.underlying25 infoLy ?_; intro g w L hM T; clear F S; (try rw [HL.out] at hM); clear HL; (try simp [Act.put, Act.eval, Value.cells, splice] at hM); have HL := Lib.hid hM; clear hM; have S := T; clear T; have F := factsAll HL S; (try simp only [factsOf, cellsFrom, and_true, true_and, Nat.reduceAdd] at F))
  go_wp2
  go_loopw [5, 4] (fun i o wr => ∃ (k : Nat) (u : Value) (qs : LsO) (L : List Ent), k ≤ n ∧ i = .int .i64 k ∧ o = u ∧ Hid (0 < k → n ≤ 4) ∧ Hid (qs.map lyO = (ls.take k).map joinLy) ∧ Hid (∀ q l, q < k → ls[q]? = some l → (joinLy l).ok = true) ∧ Hid (L = .row 33 2 u k (cellsL qs) :: rowsL qs) ∧ St w0 wr L) (fun i _ _ => n - (intOf i).toNat)
  case atStart => exact ⟨0, _, [], L, Nat.zero_le _, rfl, rfl, Lib.hid (fun h => absurd h (by omega)), Lib.hid rfl, Lib.hid (fun q l h => absurd h (by omega)), Lib.hid HL.out, S⟩
  case round =>
    clear F HL S
    obtain ⟨k, uo, qs, L, hk, rfl, rfl, H4, HP, HOK, HL, S⟩ := hrel
    have F : True := trivial
    have hpl : qs.length = k := by
      have := congrArg List.length HP.out
      rw [List.length_map, List.length_map, List.length_take, HN.out] at this
      omega
    have HPL := Lib.hid hpl
    clear hpl
    by_cases hlt : k < n
    · obtain ⟨b0, off, rfl, hb, hc⟩ := HA.out (by omega)
      obtain ⟨l, hm⟩ := some_at HN.out hlt
      obtain ⟨kind, ms⟩ := l
      obtain ⟨x, c1, c2, hu⟩ := hc k _ hm
      dsimp only at c1 c2 hu
      obtain ⟨hml, hsm⟩ := HX.out _ (List.mem_of_getElem? hm)
      dsimp only at hml hsm
      have HSM := Lib.hid hsm
      obtain ⟨m, hmm⟩ : ∃ m, ms.length = m := ⟨_, rfl⟩
      obtain ⟨A', cap', rfl, hcap', hmax', hA'⟩ := hu
      rw [hmm] at hcap' hA' hml c2
      have HM := Lib.hid hmm
      have HA' := Lib.hid hA'
      have HG := Lib.hid hm
      clear hA' hmm hc hm hsm
      obtain ⟨Ao, co, rfl, hco, hmo⟩ := S.sliceOf (atOf HL (p := 0) rfl)
      have f1 := fun w' (S' : St w0 w' L) => (S'.below.cell (p := ⟨b0, off + k * 2, none⟩) hb).trans c1
      have C2 := Lib.hid c2
      clear c1 c2
      unfold maxLen at hmax'
      go_upto_region 7 with (first | (refine wpList_alloc rfl S 33 _ rfl zLy ?_; intro gl w L hM T; clear F S; (try rw [HL.out] at hM); clear HL; (try simp [Act.put, Act.eval, Value.cells, splice] at hM); have HL := Lib.hid hM; clear hM; have S := T; clear T; have F := factsAll HL S; (try simp only [factsOf, cellsFrom, and_true, true_and, Nat.reduceAdd] at F)) | (refine wpList_store_box rfl S _ _ _ rfl 0 _ _ _ _ (atOf HL rfl) rfl _ rfl (by kernel_rfl) rfl rfl ?_; intro w L hM T; clear F S; (try rw [HL.out] at hM); clear HL; (try simp [Act.put, Act.eval, Value.cells, splice] at hM); have HL := Lib.hid hM; clear hM; have S := T; clear T; have F := factsAll HL S; (try simp only [factsOf, cellsFrom, and_true, true_and, Nat.reduceAdd] at F)))
      clear f1
      go_wp2
      rw [HL.out] at S
      have T := S.nilRow 55 3
      clear S HL F
      have S := T
      clear T
      obtain ⟨L, hM, T⟩ := st_name S; clear S; have S := T; clear T; have HL := Lib.hid hM; clear hM; have F := factsAll HL S; (try simp only [factsOf, cellsFrom, and_true, true_and, Nat.reduceAdd] at F)
      go_loopw [7] (fun i wr => ∃ (j : Nat) (ps : MsO) (u : Value) (L : List Ent), j ≤ m ∧ i = .int .i64 j ∧ Hid (ps.map Prod.snd = (ms.take j).map joinMx) ∧ Hid (L = .row 55 3 u j (cellsM ps) :: .box gl 33 [.int .i64 kind, u] :: .row 33 2 (.slice Ao k co) k (cellsL qs) :: (rowsM ps ++ rowsL qs)) ∧ St w0 wr L) (fun i _ => m - (intOf i).toNat)
      case atStart => exact ⟨0, [], _, L, Nat.zero_le _, rfl, Lib.hid rfl, Lib.hid HL.out, S⟩
      case round =>
        clear F HL S
        obtain ⟨j, ps, u, L, hj, rfl, HP2, HL, S⟩ := hrel
        have hps : ps.length = j := by
          have := congrArg List.length HP2.out
          rw [List.length_map, List.length_map, List.length_take, HM.out] at this
          omega
        have HPS := Lib.hid hps
        clear hps
        obtain ⟨Au, cu, rfl, hcu, hmu⟩ := S.sliceOf (atOf HL (p := 0) rfl)
        have F := factsAll HL S
        simp only [factsOf, cellsFrom, and_true, true_and, Nat.reduceAdd] at F
        have f2 := fun w' (S' : St w0 w' L) => (S'.below.cell (p := ⟨b0, off + k * 2 + 1, none⟩) hb).trans C2.out
        by_cases hlt2 : j < m
        · obtain ⟨b', off', rfl, hb', hc'⟩ := HA'.out (by omega)
          obtain ⟨mm, hm2⟩ := some_at HM.out hlt2
          obtain ⟨⟨r, c, xs⟩, ⟨r', c', ys⟩⟩ := mm
          obtain ⟨hsx, hsy⟩ := HSM.out _ (List.mem_of_getElem? hm2)
          dsimp only at hsx hsy
          obtain ⟨x1, x2, d1, d2, d3, d4, d5, d6, hx1, hx2⟩ := hc' j _ hm2
          dsimp only at d1 d2 d3 d4 d5 d6 hx1 hx2
          have H1 := Lib.hid hx1
          have H2 := Lib.hid hx2
          obtain ⟨-, A1, k1, rfl, hk1, hm1, -⟩ := hx1
          obtain ⟨-, A2, k2, rfl, hk2', hm2', -⟩ := hx2
          have hp' := take_at hm2
          have e1 : ((ms.take (j + 1)).map joinMx) = (ms.take j).map joinMx ++ [sumMx ⟨r, c, xs⟩ ⟨r', c', ys⟩] := by rw [hp', List.map_append]; rfl
          obtain ⟨t, ht⟩ : ∃ t, sumMx ⟨r, c, xs⟩ ⟨r', c', ys⟩ = t := ⟨_, rfl⟩
          rw [← HP2.out, ht] at e1
          have HP3 := Lib.hid e1
          have CJ := fun w h h' => C_spec_JoinL r c xs r' c' ys (.slice A1 xs.length k1) (.slice A2 ys.length k2) t w h h' hsx hsy ht
          unfold MakesMx at CJ
          obtain ⟨tr, tc, ts⟩ := t
          dsimp only at CJ
          have D1 := Lib.hid d1
          have D2 := Lib.hid d2
          have D3 := Lib.hid d3
          have D4 := Lib.hid d4
          have D5 := Lib.hid d5
          have D6 := Lib.hid d6
          clear hc' d1 d2 d3 d4 d5 d6 hm2 hp' e1 ht
          go_upto_region 10 with fail
          clear f2
          have hT := congrArg List.tail HL.out; simp only [List.tail_cons] at hT; obtain ⟨L1, hL1⟩ : ∃ M, M = L.tail := ⟨_, rfl⟩; rw [← hL1] at hT; have HL0 := Lib.hid hT; have S1 := S.sub (List.tail_sublist L); rw [← hL1] at S1; have F0 := factsAll HL0 S1; (try simp only [factsOf, cellsFrom, and_true, true_and, Nat.reduceAdd] at F0); clear S1 hL1 hT; (have f2 := fun w' (S' : St w0 w' L1) => (S'.below.cell (p := ⟨b0, off + k * 2 + 1, none⟩) hb).trans C2.out); (have g1 := fun w' (S' : St w0 w' L1) => (S'.below.cell (p := ⟨b', off' + j * 6, none⟩) hb').trans D1.out); (have g2 := fun w' (S' : St w0 w' L1) => (S'.below.cell (p := ⟨b', off' + j * 6 + 1, none⟩) hb').trans D2.out); (have g3 := fun w' (S' : St w0 w' L1) => (S'.below.cell (p := ⟨b', off' + j * 6 + 2, none⟩) hb').trans D3.out); (have g4 := fun w' (S' : St w0 w' L1) => (S'.below.cell (p := ⟨b', off' + j * 6 + 3, none⟩) hb').trans D4.out); (have g5 := fun w' (S' : St w0 w' L1) => (S'.below.cell (p := ⟨b', off' + j * 6 + 4, none⟩) hb').trans D5.out); (have g6 := fun w' (S' : St w0 w' L1) => (S'.below.cell (p := ⟨b', off' + j * 6 + 5, none⟩) hb').trans D6.out); refine wp_region_tree (S := fun w' => St w0 w' L1) (.calm 0 (.calm 1 (.calm 2 (.calm 3 (.calm 4 (.calm 5 (.calm 6 (.calm 7 (.calm 8 (.calm 9 (.act 10 (.act 11 (.act 12 (.calm 13 (.act 14 .fin .stop)) .stop) .stop) .stop))))))))))) (by kernel_rfl) (by kernel_rfl) (by kernel_rfl) (by intro c a d v w h; cases d <;> exact h) ?_; replace S := S.drew
          repeat (first | (first | (refine tree_calm (v := ?_) ?_ rfl (by decide +kernel) rfl ?_ ?_; rotate_left; (focus (first | exact S | (refine S.sub (subL HL0 HL ?_); (repeat (first | exact List.Sublist.refl _ | apply List.Sublist.cons)); done))); (focus (intro w' hS'; (try dsimp only at hS'); go_simp; try rfl)); (try simp only [Act.put, List.setIfInBounds_toArray, List.set_cons_zero, List.set_cons_succ])) | (refine tree_any (v := ?_) ?_ rfl rfl ?_ ?_; rotate_left; (focus (first | exact S | (refine S.sub (subL HL0 HL ?_); (repeat (first | exact List.Sublist.refl _ | apply List.Sublist.cons)); done))); (focus (intro w'; go_simp; try rfl)); (try simp only [Act.put, List.setIfInBounds_toArray, List.set_cons_zero, List.set_cons_succ]))) | (refine tree_skip ?_ rfl rfl ?_; (focus (first | exact S | (refine S.sub (subL HL0 HL ?_); (repeat (first | exact List.Sublist.refl _ | apply List.Sublist.cons)); done))); (try simp only [Act.put, List.setIfInBounds_toArray, List.set_cons_zero, List.set_cons_succ])) | (refine tree_act rfl rfl ?_ tree_stop; intro K hK; (refine wp_litX S _ _ rfl 55 Try.underlying31 infoMx _ _ _ rfl ?_; intro g w L hM T; clear F S; (try rw [HL.out] at hM); clear HL; (try simp [Act.put, Act.eval, Value.cells, splice] at hM); have HL := Lib.hid hM; clear hM; have S := T; clear T; have F := factsAll HL S; (try simp only [factsOf, cellsFrom, and_true, true_and, Nat.reduceAdd] at F)); (refine hK.out _ _ ?_ ?_; (focus (first | exact fun _ => S | (intro _; refine S.sub (subL HL0 HL ?_); (repeat (first | exact List.Sublist.refl _ | apply List.Sublist.cons)); done) | (refine sink_no ?_; kernel_rfl))); clear hK K; (try simp only [Act.put, List.setIfInBounds_toArray, List.set_cons_zero, List.set_cons_succ]))) | (refine tree_act rfl rfl ?_ tree_stop; intro K hK; (refine wp_append_boxB S _ _ _ rfl 55 _ 3 40 Try.underlying31 infoMx rfl (by omega) 2 _ _ _ rfl (atOf HL rfl) (by omega) 0 _ _ _ _ _ rfl (atOf HL rfl) rfl rfl rfl rfl ?_; intro u w L hM T; clear F S; (try rw [HL.out] at hM); clear HL; (try simp [Act.put, Act.eval, Value.cells, splice] at hM); have HL := Lib.hid hM; clear hM; have S := T; clear T; have F := factsAll HL S; (try simp only [factsOf, cellsFrom, and_true, true_and, Nat.reduceAdd] at F); obtain ⟨Au2, cu2, rfl, hcu2, hmu2⟩ := S.sliceOf (atOf HL (p := 2) rfl)); (refine hK.out _ _ ?_ ?_; (focus (first | exact fun _ => S | (intro _; refine S.sub (subL HL0 HL ?_); (repeat (first | exact List.Sublist.refl _ | apply List.Sublist.cons)); done) | (refine sink_no ?_; kernel_rfl))); clear hK K; (try simp only [Act.put, List.setIfInBounds_toArray, List.set_cons_zero, List.set_cons_succ]))) | (refine tree_act rfl rfl ?_ tree_stop; intro K hK; (refine wp_store_box S _ _ _ rfl 3 _ _ _ _ (atOf HL rfl) rfl _ rfl (by kernel_rfl) rfl rfl ?_; intro w L hM T; clear F S; (try rw [HL.out] at hM); clear HL; (try simp [Act.put, Act.eval, Value.cells, splice] at hM); have HL := Lib.hid hM; clear hM; have S := T; clear T; have F := factsAll HL S; (try simp only [factsOf, cellsFrom, and_true, true_and, Nat.reduceAdd] at F)); (refine hK.out _ _ ?_ ?_; (focus (first | exact fun _ => S | (intro _; refine S.sub (subL HL0 HL ?_); (repeat (first | exact List.Sublist.refl _ | apply List.Sublist.cons)); done) | (refine sink_no ?_; kernel_rfl))); clear hK K; (try simp only [Act.put, List.setIfInBounds_toArray, List.set_cons_zero, List.set_cons_succ]))) | (refine tree_act rfl rfl ?_ tree_stop; intro K hK; go_wp2_with (first | (go_at_call 38; refine (CJ _ (H1.out.at_ S) (H2.out.at_ S)).mono ?_; rintro e w ⟨u, rfl, T0⟩; obtain ⟨L, hM, T⟩ := st_name (S.call T0); clear T0; clear F S; (try rw [HL.out] at hM); clear HL; (try simp [Act.put, Act.eval, Value.cells, splice] at hM); have HL := Lib.hid hM; clear hM; have S := T; clear T; have F := factsAll HL S; (try simp only [factsOf, cellsFrom, and_true, true_and, Nat.reduceAdd] at F); obtain ⟨A', cap', rfl, hcap', hmax'⟩ := S.sliceOf (atOf HL (p := 0) rfl))); (refine hK.out _ _ ?_ ?_; (focus (first | exact fun _ => S | (intro _; refine S.sub (subL HL0 HL ?_); (repeat (first | exact List.Sublist.refl _ | apply List.Sublist.cons)); done) | (refine sink_no ?_; kernel_rfl))); clear hK K; (try simp only [Act.put, List.setIfInBounds_toArray, List.set_cons_zero, List.set_cons_succ]))))
          refine tree_fin ?_
          clear HL0 F0 f2 g1 g2 g3 g4 g5 g6
          go_wp2
          go_roundw
          case rel =>
            rw [HL.out] at S
            have T := (S.sub (.cons _ (.refl _))).perm (jn_perm3 _ _ _ _ _ _)
            exact ⟨j + 1, ps ++ [(_, ⟨tr, tc, ts⟩)], _, _, by omega, by go_num, Lib.hid (by rw [HP3.out, List.map_append]; rfl), Lib.hid (by rw [cellsM_add, rowsM_add]; rfl), T⟩
          case measure => simp [intOf]; omega
        · obtain rfl : j = m := by omega
          have hsn : ps.map Prod.snd = (joinLy ⟨kind, ms⟩).ws := by
            rw [HP2.out, List.take_of_length_le (Nat.le_of_eq HM.out)]; rfl
          have hse := fun w' (S' : St w0 w' L) => sees_ms S' (u := .slice Au j cu) (ps := ps) (by
            rw [HL.out]
            unfold entsM
            rw [HPS.out]
            intro e he
            rcases List.mem_cons.1 he with rfl | he
            · exact List.mem_cons_self
            · exact List.mem_cons_of_mem _ (List.mem_cons_of_mem _ (List.mem_cons_of_mem _ (List.mem_append_left _ he))))
          rw [hsn] at hse
          have HSE := Lib.hid hse
          clear hse hsn
          cases hok : (joinLy ⟨kind, ms⟩).ok with
          | false =>
            have CL := fun w h => C_spec_LayerValid (.slice Au j cu) kind (joinLy ⟨kind, ms⟩).ws false w h hok
            obtain ⟨rfl, rfl⟩ : b = false ∧ js = [] := by
              have := HJ.out
              rw [joinRes_bad HG.out hok] at this
              injection this with e1 e2
              exact ⟨e1.symm, e2.symm⟩
            go_wp2_with (first | (go_at_call 39; refine (CL _ (HSE.out _ S)).mono ?_; rintro e w ⟨rfl, hb⟩; replace S := S.grow hb; clear hb) | (refine wpList_empty rfl S _ rfl 33 Try.underlying25 infoLy ?_; intro g w L hM T; clear F S; (try rw [HL.out] at hM); clear HL; (try simp [Act.put, Act.eval, Value.cells, splice] at hM); have HL := Lib.hid hM; clear hM; have S := T; clear T; have F := factsAll HL S; (try simp only [factsOf, cellsFrom, and_true, true_and, Nat.reduceAdd] at F)))
            refine ret2 rfl (show _ = _ from rfl) (show _ = _ from rfl) rfl ?_
            rw [HL.out] at S
            exact ⟨_, [], rfl, rfl, St.rebase HBB.out (S.sub (.cons_cons _ (List.nil_sublist _)))⟩
          | true =>
            have CL := fun w h => C_spec_LayerValid (.slice Au j cu) kind (joinLy ⟨kind, ms⟩).ws true w h hok
            have HOKN := Lib.hid hok
            clear hok
            by_cases h4 : n ≤ 4
            · go_upto_region 13 with (first | (go_at_call 39; refine (CL _ (HSE.out _ S)).mono ?_; rintro e w ⟨rfl, hb⟩; replace S := S.grow hb; clear hb))
              clear f2
              go_wp2_with (first | (refine wpList_litY rfl S _ _ rfl 33 Try.underlying25 infoLy _ _ rfl ?_; intro g w L hM T; clear F S; (try rw [HL.out] at hM); clear HL; (try simp [Act.put, Act.eval, Value.cells, splice] at hM); have HL := Lib.hid hM; clear hM; have S := T; clear T; have F := factsAll HL S; (try simp only [factsOf, cellsFrom, and_true, true_and, Nat.reduceAdd] at F)) | (refine wpList_append_boxB rfl S _ _ _ rfl 33 _ 2 32 Try.underlying25 infoLy rfl (by omega) _ _ _ _ rfl (by first | exact atOf HL (p := 0) rfl | exact atOf HL (p := 1) rfl | exact atOf HL (p := 2) rfl | exact atOf HL (p := 3) rfl | exact atOf HL (p := 4) rfl | exact atOf HL (p := 5) rfl | exact atOf HL (p := 6) rfl | exact atOf HL (p := 7) rfl) (by omega) _ _ _ _ _ _ rfl (by first | exact atOf HL (p := 0) rfl | exact atOf HL (p := 1) rfl | exact atOf HL (p := 2) rfl | exact atOf HL (p := 3) rfl | exact atOf HL (p := 4) rfl | exact atOf HL (p := 5) rfl | exact atOf HL (p := 6) rfl | exact atOf HL (p := 7) rfl) rfl rfl rfl rfl ?_; intro u w L hM T; clear F S; (try rw [HL.out] at hM); clear HL; (try simp [Act.put, Act.eval, Value.cells, splice] at hM); have HL := Lib.hid hM; clear hM; have S := T; clear T; have F := factsAll HL S; (try simp only [factsOf, cellsFrom, and_true, true_and, Nat.reduceAdd] at F)))
              go_roundw
              case rel =>
                rw [HL.out] at S
                have T := (S.sub (.cons _ (.cons_cons _ (.cons _ (.refl _))))).perm (jn_perm4 _ _ _ _)
                refine ⟨k + 1, _, qs ++ [(.slice Au j cu, kind, ps)], _, by omega, by go_num, rfl, Lib.hid (fun _ => h4), Lib.hid ?_, Lib.hid ?_, Lib.hid rfl, ?_⟩
                · rw [List.map_append, HP.out, take_at HG.out, List.map_append]
                  have e : lyO (.slice Au j cu, kind, ps) = joinLy ⟨kind, ms⟩ := by
                    show Ly.mk kind (ps.map Prod.snd) = Ly.mk kind (ms.map joinMx)
                    rw [HP2.out, List.take_of_length_le (Nat.le_of_eq HM.out)]
                  show _ ++ [lyO (.slice Au j cu, kind, ps)] = _
                  rw [e]
                  rfl
                · intro q l hq hl
                  by_cases h : q = k
                  · subst h
                    rw [HG.out] at hl
                    injection hl with hl
                    subst hl
                    exact HOKN.out
                  · exact HOK.out q l (by omega) hl
                · have e1 : cellsL (qs ++ [(Value.slice Au j cu, kind, ps)]) = cellsL qs ++ [.int .i64 kind, .slice Au j cu] := by
                    rw [cellsL_add]; rfl
                  have e2 : rowsL (qs ++ [(Value.slice Au j cu, kind, ps)]) = rowsL qs ++ (.row 55 3 (.slice Au j cu) j (cellsM ps) :: rowsM ps) := by
                    rw [rowsL_add]
                    show rowsL qs ++ (entsM (.slice Au j cu) ps ++ []) = _
                    rw [List.append_nil]
                    unfold entsM
                    rw [HPS.out]
                  rw [e1, e2]
                  exact T
              case measure => simp [intOf]; omega
            · obtain ⟨rfl, rfl⟩ : b = false ∧ js = [] := by
                have := HJ.out
                rw [joinRes_many (by rw [HN.out]; exact h4)] at this
                injection this with e1 e2
                exact ⟨e1.symm, e2.symm⟩
              go_wp2_with (first | (go_at_call 39; refine (CL _ (HSE.out _ S)).mono ?_; rintro e w ⟨rfl, hb⟩; replace S := S.grow hb; clear hb) | (refine wpList_empty rfl S _ rfl 33 Try.underlying25 infoLy ?_; intro g w L hM T; clear F S; (try rw [HL.out] at hM); clear HL; (try simp [Act.put, Act.eval, Value.cells, splice] at hM); have HL := Lib.hid hM; clear hM; have S := T; clear T; have F := factsAll HL S; (try simp only [factsOf, cellsFrom, and_true, true_and, Nat.reduceAdd] at F)))
              refine ret2 rfl (show _ = _ from rfl) (show _ = _ from rfl) rfl ?_
              rw [HL.out] at S
              exact ⟨_, [], rfl, rfl, St.rebase HBB.out (S.sub (.cons_cons _ (List.nil_sublist _)))⟩
    · obtain rfl : k = n := by omega
      have h4 : k ≤ 4 := by
        rcases Nat.eq_zero_or_pos k with h0 | h0
        · omega
        · exact H4.out h0
      have he : joinRes ls = (true, ls.map joinLy) := joinRes_ok (by rw [HN.out]; exact h4) (by rw [HN.out]; exact HOK.out)
      obtain ⟨rfl, rfl⟩ : b = true ∧ js = ls.map joinLy := by
        have := HJ.out
        rw [he] at this
        injection this with e1 e2
        exact ⟨e1.symm, e2.symm⟩
      clear he
      go_wp2
      refine ret2 rfl (show _ = _ from rfl) (show _ = _ from rfl) rfl ?_
      rw [HL.out] at S
      refine ⟨_, qs, rfl, ?_, ?_⟩
      · rw [HP.out, List.take_of_length_le (Nat.le_of_eq HN.out)]
      · unfold entsL
        rw [HPL.out]
        exact St.rebase HBB.out S
end Go.Proofs.Ytdfpceobfficfaa
