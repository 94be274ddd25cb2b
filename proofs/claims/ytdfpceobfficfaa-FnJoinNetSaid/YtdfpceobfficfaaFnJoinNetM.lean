/-
  Proved here: joined networks are networks: as many layers, all of them valid.
-/
import Derived.Test.YtdfpceobfficfaaHead
import Derived.Test.YtdfpceobfficfaaJnI
import Derived.Test.YtdfpceobfficfaaView
import Derived.Test.YtdfpceobfficfaaSlS
import Derived.Test.YtdfpceobfficfaaSpS
import Derived.Test.YtdfpceobfficfaaDrM
import Derived.Test.YtdfpceobfficfaaJnA
import Derived.Test.YtdfpceobfficfaaDraw
import Derived.Test.YtdfpceobfficfaaLaw
namespace Go.Proofs.Ytdfpceobfficfaa
set_option linter.unusedSimpArgs false
set_option linter.unusedVariables false
set_option linter.unusedSectionVars false
/-! ### Contract: JoinNet, the reference's. -/
open Go Go.RowKit
set_option maxHeartbeats 8000000
set_option maxRecDepth 20000
theorem St.rebase {w0 w1 w : World} {L : List Ent} (hb : Below w0.heap.size w0 w1) (T : St w1 w L) : St w0 w L :=
  ⟨hb.trans (T.below.mono hb.size), fun e he => Ent.holds_base (T.own e he) hb.size, T.apart⟩
theorem jn_perm3 (t m l o : Ent) (A B : List Ent) : (t :: m :: l :: o :: (A ++ B)).Perm (m :: l :: o :: ((A ++ [t]) ++ B)) := by
  rw [List.append_assoc]
  exact (List.perm_append_comm_assoc [t] [m, l, o] (A ++ B)).trans (((((List.perm_append_comm_assoc [t] A B)).cons o).cons l).cons m)
theorem jn_perm4 (m o : Ent) (A B : List Ent) : (m :: o :: (A ++ B)).Perm (o :: (B ++ (m :: A))) := jn_perm2 m o A B
theorem C_spec_JoinNet (v : Value) (ls : List SLy) (b : Bool) (js : List Ly) (wz : World) (h : SeesSLs wz v ls) (hn0 : ls.length ≤ 1048576) (hx : ∀ l ∈ ls, SLySmall 1048576 l) (hj : joinRes ls = (b, js)) :
    Calls Try.prog 10 #[v] wz fun e w => ∃ u qs, e = .returned (.tuple #[u, .bool b]) ∧ qs.map lyO = js ∧ St wz w (entsL u qs) := by
  have H := Lib.hid h
  have HX := Lib.hid hx
  have HJ := Lib.hid hj
  obtain ⟨A, cap, rfl, hcap, hmax, _⟩ := h
  clear hx hj
  obtain ⟨L, HL, S⟩ := st_start wz; have F : True := trivial
  go_enter Try.func10, Try.ntmps10
  go_upto_region 2 with (first | (go_at_call 37; refine (C_l1OwnSharedLayerList _ ls _ (H.out.at_ S) hn0 HX.out).mono ?_; rintro e w0 ⟨u0, qs0, rfl, hqs, T0⟩; have HS := Lib.hid (hqs ▸ sees_sls T0 (fun e he => he) : SeesSLs w0 u0 ls); have HBB := Lib.hid (S.below.trans (T0.below.mono S.below.size)); clear S HL F T0 hqs; obtain ⟨L, HL, S⟩ := st_start w0; have F : True := trivial))
  obtain ⟨A0, c0, rfl, hc0, hm0, hA⟩ := HS.out
  clear HS H hcap hmax
  obtain ⟨n, hn⟩ : ∃ n, ls.length = n := ⟨_, rfl⟩
  rw [hn] at hc0 hA hn0
  (try rw [hn])
  have HN := Lib.hid hn
  have HA := Lib.hid hA
  clear hA hn
  unfold maxLen at hm0
  go_upto_region 3 with (refine wpList_empty rfl S _ rfl 33 Try.underlying25 infoLy ?_; intro g w L hM T; clear F S; (try rw [HL.out] at hM); clear HL; (try simp [Act.put, Act.eval, Value.cells, splice] at hM); have HL := Lib.hid hM; clear hM; have S := T; clear T; have F := factsAll HL S; (try simp only [factsOf, cellsFrom, and_true, true_and, Nat.reduceAdd] at F))
  go_wp2
  go_loopw [5, 4] (fun i o wr => ∃ (k : Nat) (u : Value) (qs : LsO) (L : List Ent), k ≤ n ∧ i = .int .i64 k ∧ o = u ∧ Hid (0 < k → n ≤ 4) ∧ Hid (qs.map lyO = (ls.take k).map joinLy) ∧ Hid (∀ q l, q < k → ls[q]? = some l → (joinLy l).ok = true) ∧ Hid (L = .row 33 2 u k (cellsL qs) :: rowsL qs) ∧ St w0 wr L) (fun i _ _ => n - (intOf i).toNat)
  case atStart => exact ⟨0, _, [], L, Nat.zero_le _, rfl, rfl, Lib.hid (fun h => absurd h (by omega)), Lib.hid rfl, Lib.hid (fun q l h => absurd h (by omega)), Lib.hid HL.out, S⟩
  case round =>
    clear F HL S
    obtain ⟨k, uo, qs, L, hk, rfl, rfl, H4, HP, HOK, HL, S⟩ := hrel
    have F : True := trivial
    have hpl : qs.length = k := by
      have := congrArg List.length HP.out
      rw [List.length_map, List.length_map, List.length_take, HN.out] at this
      omega
    have HPL := Lib.hid hpl
    clear hpl
    by_cases hlt : k < n
    · obtain ⟨b0, off, rfl, hb, hc⟩ := HA.out (by omega)
      obtain ⟨l, hm⟩ := some_at HN.out hlt
      obtain ⟨kind, ms⟩ := l
      obtain ⟨x, c1, c2, hu⟩ := hc k _ hm
      dsimp only at c1 c2 hu
      obtain ⟨hml, hsm⟩ := HX.out _ (List.mem_of_getElem? hm)
      dsimp only at hml hsm
      have HSM := Lib.hid hsm
      obtain ⟨m, hmm⟩ : ∃ m, ms.length = m := ⟨_, rfl⟩
      obtain ⟨A', cap', rfl, hcap', hmax', hA'⟩ := hu
      rw [hmm] at hcap' hA' hml c2
      have HM := Lib.hid hmm
      have HA' := Lib.hid hA'
      have HG := Lib.hid hm
      clear hA' hmm hc hm hsm
      obtain ⟨Ao, co, rfl, hco, hmo⟩ := S.sliceOf (atOf HL (p := 0) rfl)
      have f1 := fun w' (S' : St w0 w' L) => (S'.below.cell (p := ⟨b0, off + k * 2, none⟩) hb).trans c1
      have C2 := Lib.hid c2
      clear c1 c2
      unfold maxLen at hmax'
      go_upto_region 7 with (first | (refine wpList_alloc rfl S 33 _ rfl zLy ?_; intro gl w L hM T; clear F S; (try rw [HL.out] at hM); clear HL; (try simp [Act.put, Act.eval, Value.cells, splice] at hM); have HL := Lib.hid hM; clear hM; have S := T; clear T; have F := factsAll HL S; (try simp only [factsOf, cellsFrom, and_true, true_and, Nat.reduceAdd] at F)) | (refine wpList_store_box rfl S _ _ _ rfl 0 _ _ _ _ (atOf HL rfl) rfl _ rfl (by kernel_rfl) rfl rfl ?_; intro w L hM T; clear F S; (try rw [HL.out] at hM); clear HL; (try simp [Act.put, Act.eval, Value.cells, splice] at hM); have HL := Lib.hid hM; clear hM; have S := T; clear T; have F := factsAll HL S; (try simp only [factsOf, cellsFrom, and_true, true_and, Nat.reduceAdd] at F)))
      clear f1
      go_wp2
      rw [HL.out] at S
      have T := S.nilRow 55 3
      clear S HL F
      have S := T
      clear T
      obtain ⟨L, hM, T⟩ := st_name S; clear S; have S := T; clear T; have HL := Lib.hid hM; clear hM; have F := factsAll HL S; (try simp only [factsOf, cellsFrom, and_true, true_and, Nat.reduceAdd] at F)
      go_loopw [7] (fun i wr => ∃ (j : Nat) (ps : MsO) (u : Value) (L : List Ent), j ≤ m ∧ i = .int .i64 j ∧ Hid (ps.map Prod.snd = (ms.take j).map joinMx) ∧ Hid (L = .row 55 3 u j (cellsM ps) :: .box gl 33 [.int .i64 kind, u] :: .row 33 2 (.slice Ao k co) k (cellsL qs) :: (rowsM ps ++ rowsL qs)) ∧ St w0 wr L) (fun i _ => m - (intOf i).toNat)
      case atStart => exact ⟨0, [], _, L, Nat.zero_le _, rfl, Lib.hid rfl, Lib.hid HL.out, S⟩
      case round =>
        clear F HL S
        obtain ⟨j, ps, u, L, hj, rfl, HP2, HL, S⟩ := hrel
        have hps : ps.length = j := by
          have := congrArg List.length HP2.out
          rw [List.length_map, List.length_map, List.length_take, HM.out] at this
          omega
        have HPS := Lib.hid hps
        clear hps
        obtain ⟨Au, cu, rfl, hcu, hmu⟩ := S.sliceOf (atOf HL (p := 0) rfl)
        have F := factsAll HL S
        simp only [factsOf, cellsFrom, and_true, true_and, Nat.reduceAdd] at F
        have f2 := fun w' (S' : St w0 w' L) => (S'.below.cell (p := ⟨b0, off + k * 2 + 1, none⟩) hb).trans C2.out
        by_cases hlt2 : j < m
        · obtain ⟨b', off', rfl, hb', hc'⟩ := HA'.out (by omega)
          obtain ⟨mm, hm2⟩ := some_at HM.out hlt2
          obtain ⟨⟨r, c, xs⟩, ⟨r', c', ys⟩⟩ := mm
          obtain ⟨hsx, hsy⟩ := HSM.out _ (List.mem_of_getElem? hm2)
          dsimp only at hsx hsy
          obtain ⟨x1, x2, d1, d2, d3, d4, d5, d6, hx1, hx2⟩ := hc' j _ hm2
          dsimp only at d1 d2 d3 d4 d5 d6 hx1 hx2
          have H1 := Lib.hid hx1
          have H2 := Lib.hid hx2
          obtain ⟨-, A1, k1, rfl, hk1, hm1, -⟩ := hx1
          obtain ⟨-, A2, k2, rfl, hk2', hm2', -⟩ := hx2
          have hp' := take_at hm2
          have e1 : ((ms.take (j + 1)).map joinMx) = (ms.take j).map joinMx ++ [sumMx ⟨r, c, xs⟩ ⟨r', c', ys⟩] := by rw [hp', List.map_append]; rfl
          obtain ⟨t, ht⟩ : ∃ t, sumMx ⟨r, c, xs⟩ ⟨r', c', ys⟩ = t := ⟨_, rfl⟩
          rw [← HP2.out, ht] at e1
          have HP3 := Lib.hid e1
          have CJ := fun w h h' => C_spec_JoinL r c xs r' c' ys (.slice A1 xs.length k1) (.slice A2 ys.length k2) t w h h' hsx hsy ht
          unfold MakesMx at CJ
          obtain ⟨tr, tc, ts⟩ := t
          dsimp only at CJ
          have D1 := Lib.hid d1
          have D2 := Lib.hid d2
          have D3 := Lib.hid d3
          have D4 := Lib.hid d4
          have D5 := Lib.hid d5
          have D6 := Lib.hid d6
          clear hc' d1 d2 d3 d4 d5 d6 hm2 hp' e1 ht
          go_upto_region 10 with fail
          clear f2
          have hT := congrArg List.tail HL.out; simp only [List.tail_cons] at hT; obtain ⟨L1, hL1⟩ : ∃ M, M = L.tail := ⟨_, rfl⟩; rw [← hL1] at hT; have HL0 := Lib.hid hT; have S1 := S.sub (List.tail_sublist L); rw [← hL1] at S1; have F0 := factsAll HL0 S1; (try simp only [factsOf, cellsFrom, and_true, true_and, Nat.reduceAdd] at F0); clear S1 hL1 hT; (have f2 := fun w' (S' : St w0 w' L1) => (S'.below.cell (p := ⟨b0, off + k * 2 + 1, none⟩) hb).trans C2.out); (have g1 := fun w' (S' : St w0 w' L1) => (S'.below.cell (p := ⟨b', off' + j * 6, none⟩) hb').trans D1.out); (have g2 := fun w' (S' : St w0 w' L1) => (S'.below.cell (p := ⟨b', off' + j * 6 + 1, none⟩) hb').trans D2.out); (have g3 := fun w' (S' : St w0 w' L1) => (S'.below.cell (p := ⟨b', off' + j * 6 + 2, none⟩) hb').trans D3.out); (have g4 := fun w' (S' : St w0 w' L1) => (S'.below.cell (p := ⟨b', off' + j * 6 + 3, none⟩) hb').trans D4.out); (have g5 := fun w' (S' : St w0 w' L1) => (S'.below.cell (p := ⟨b', off' + j * 6 + 4, none⟩) hb').trans D5.out); (have g6 := fun w' (S' : St w0 w' L1) => (S'.below.cell (p := ⟨b', off' + j * 6 + 5, none⟩) hb').trans D6.out); refine wp_region_tree (S := fun w' => St w0 w' L1) (.calm 0 (.calm 1 (.calm 2 (.calm 3 (.calm 4 (.calm 5 (.calm 6 (.calm 7 (.calm 8 (.calm 9 (.act 10 (.act 11 (.act 12 (.calm 13 (.act 14 .fin .stop)) .stop) .stop) .stop))))))))))) (by kernel_rfl) (by kernel_rfl) (by kernel_rfl) (by intro c a d v w h; cases d <;> exact h) ?_; replace S := S.drew
          repeat (first | (first | (refine tree_calm (v := ?_) ?_ rfl (by decide +kernel) rfl ?_ ?_; rotate_left; (focus (first | exact S | (refine S.sub (subL HL0 HL ?_); (repeat (first | exact List.Sublist.refl _ | apply List.Sublist.cons)); done))); (focus (intro w' hS'; (try dsimp only at hS'); go_simp; try rfl)); (try simp only [Act.put, List.setIfInBounds_toArray, List.set_cons_zero, List.set_cons_succ])) | (refine tree_any (v := ?_) ?_ rfl rfl ?_ ?_; rotate_left; (focus (first | exact S | (refine S.sub (subL HL0 HL ?_); (repeat (first | exact List.Sublist.refl _ | apply List.Sublist.cons)); done))); (focus (intro w'; go_simp; try rfl)); (try simp only [Act.put, List.setIfInBounds_toArray, List.set_cons_zero, List.set_cons_succ]))) | (refine tree_skip ?_ rfl rfl ?_; (focus (first | exact S | (refine S.sub (subL HL0 HL ?_); (repeat (first | exact List.Sublist.refl _ | apply List.Sublist.cons)); done))); (try simp only [Act.put, List.setIfInBounds_toArray, List.set_cons_zero, List.set_cons_succ])) | (refine tree_act rfl rfl ?_ tree_stop; intro K hK; (refine wp_litX S _ _ rfl 55 Try.underlying31 infoMx _ _ _ rfl ?_; intro g w L hM T; clear F S; (try rw [HL.out] at hM); clear HL; (try simp [Act.put, Act.eval, Value.cells, splice] at hM); have HL := Lib.hid hM; clear hM; have S := T; clear T; have F := factsAll HL S; (try simp only [factsOf, cellsFrom, and_true, true_and, Nat.reduceAdd] at F)); (refine hK.out _ _ ?_ ?_; (focus (first | exact fun _ => S | (intro _; refine S.sub (subL HL0 HL ?_); (repeat (first | exact List.Sublist.refl _ | apply List.Sublist.cons)); done) | (refine sink_no ?_; kernel_rfl))); clear hK K; (try simp only [Act.put, List.setIfInBounds_toArray, List.set_cons_zero, List.set_cons_succ]))) | (refine tree_act rfl rfl ?_ tree_stop; intro K hK; (refine wp_append_boxB S _ _ _ rfl 55 _ 3 40 Try.underlying31 infoMx rfl (by omega) 2 _ _ _ rfl (atOf HL rfl) (by omega) 0 _ _ _ _ _ rfl (atOf HL rfl) rfl rfl rfl rfl ?_; intro u w L hM T; clear F S; (try rw [HL.out] at hM); clear HL; (try simp [Act.put, Act.eval, Value.cells, splice] at hM); have HL := Lib.hid hM; clear hM; have S := T; clear T; have F := factsAll HL S; (try simp only [factsOf, cellsFrom, and_true, true_and, Nat.reduceAdd] at F); obtain ⟨Au2, cu2, rfl, hcu2, hmu2⟩ := S.sliceOf (atOf HL (p := 2) rfl)); (refine hK.out _ _ ?_ ?_; (focus (first | exact fun _ => S | (intro _; refine S.sub (subL HL0 HL ?_); (repeat (first | exact List.Sublist.refl _ | apply List.Sublist.cons)); done) | (refine sink_no ?_; kernel_rfl))); clear hK K; (try simp only [Act.put, List.setIfInBounds_toArray, List.set_cons_zero, List.set_cons_succ]))) | (refine tree_act rfl rfl ?_ tree_stop; intro K hK; (refine wp_store_box S _ _ _ rfl 3 _ _ _ _ (atOf HL rfl) rfl _ rfl (by kernel_rfl) rfl rfl ?_; intro w L hM T; clear F S; (try rw [HL.out] at hM); clear HL; (try simp [Act.put, Act.eval, Value.cells, splice] at hM); have HL := Lib.hid hM; clear hM; have S := T; clear T; have F := factsAll HL S; (try simp only [factsOf, cellsFrom, and_true, true_and, Nat.reduceAdd] at F)); (refine hK.out _ _ ?_ ?_; (focus (first | exact fun _ => S | (intro _; refine S.sub (subL HL0 HL ?_); (repeat (first | exact List.Sublist.refl _ | apply List.Sublist.cons)); done) | (refine sink_no ?_; kernel_rfl))); clear hK K; (try simp only [Act.put, List.setIfInBounds_toArray, List.set_cons_zero, List.set_cons_succ]))) | (refine tree_act rfl rfl ?_ tree_stop; intro K hK; go_wp2_with (first | (go_at_call 38; refine (CJ _ (H1.out.at_ S) (H2.out.at_ S)).mono ?_; rintro e w ⟨u, rfl, T0⟩; obtain ⟨L, hM, T⟩ := st_name (S.call T0); clear T0; clear F S; (try rw [HL.out] at hM); clear HL; (try simp [Act.put, Act.eval, Value.cells, splice] at hM); have HL := Lib.hid hM; clear hM; have S := T; clear T; have F := factsAll HL S; (try simp only [factsOf, cellsFrom, and_true, true_and, Nat.reduceAdd] at F); obtain ⟨A', cap', rfl, hcap', hmax'⟩ := S.sliceOf (atOf HL (p := 0) rfl))); (refine hK.out _ _ ?_ ?_; (focus (first | exact fun _ => S | (intro _; refine S.sub (subL HL0 HL ?_); (repeat (first | exact List.Sublist.refl _ | apply List.Sublist.cons)); done) | (refine sink_no ?_; kernel_rfl))); clear hK K; (try simp only [Act.put, List.setIfInBounds_toArray, List.set_cons_zero, List.set_cons_succ]))))
          refine tree_fin ?_
          clear HL0 F0 f2 g1 g2 g3 g4 g5 g6
          go_wp2
          go_roundw
          case rel =>
            rw [HL.out] at S
            have T := (S.sub (.cons _ (.refl _))).perm (jn_perm3 _ _ _ _ _ _)
            exact ⟨j + 1, ps ++ [(_, ⟨tr, tc, ts⟩)], _, _, by omega, by go_num, Lib.hid (by rw [HP3.out, List.map_append]; rfl), Lib.hid (by rw [cellsM_add, rowsM_add]; rfl), T⟩
          case measure => simp [intOf]; omega
        · obtain rfl : j = m := by omega
          have hsn : ps.map Prod.snd = (joinLy ⟨kind, ms⟩).ws := by
            rw [HP2.out, List.take_of_length_le (Nat.le_of_eq HM.out)]; rfl
          have hse := fun w' (S' : St w0 w' L) => sees_ms S' (u := .slice Au j cu) (ps := ps) (by
            rw [HL.out]
            unfold entsM
            rw [HPS.out]
            intro e he
            rcases List.mem_cons.1 he with rfl | he
            · exact List.mem_cons_self
            · exact List.mem_cons_of_mem _ (List.mem_cons_of_mem _ (List.mem_cons_of_mem _ (List.mem_append_left _ he))))
          rw [hsn] at hse
          have HSE := Lib.hid hse
          clear hse hsn
          cases hok : (joinLy ⟨kind, ms⟩).ok with
          | false =>
            have CL := fun w h => C_spec_LayerValid (.slice Au j cu) kind (joinLy ⟨kind, ms⟩).ws false w h hok
            obtain ⟨rfl, rfl⟩ : b = false ∧ js = [] := by
              have := HJ.out
              rw [joinRes_bad HG.out hok] at this
              injection this with e1 e2
              exact ⟨e1.symm, e2.symm⟩
            go_wp2_with (first | (go_at_call 39; refine (CL _ (HSE.out _ S)).mono ?_; rintro e w ⟨rfl, hb⟩; replace S := S.grow hb; clear hb) | (refine wpList_empty rfl S _ rfl 33 Try.underlying25 infoLy ?_; intro g w L hM T; clear F S; (try rw [HL.out] at hM); clear HL; (try simp [Act.put, Act.eval, Value.cells, splice] at hM); have HL := Lib.hid hM; clear hM; have S := T; clear T; have F := factsAll HL S; (try simp only [factsOf, cellsFrom, and_true, true_and, Nat.reduceAdd] at F)))
            refine ret2 rfl (show _ = _ from rfl) (show _ = _ from rfl) rfl ?_
            rw [HL.out] at S
            exact ⟨_, [], rfl, rfl, St.rebase HBB.out (S.sub (.cons_cons _ (List.nil_sublist _)))⟩
          | true =>
            have CL := fun w h => C_spec_LayerValid (.slice Au j cu) kind (joinLy ⟨kind, ms⟩).ws true w h hok
            have HOKN := Lib.hid hok
            clear hok
            by_cases h4 : n ≤ 4
            · go_upto_region 13 with (first | (go_at_call 39; refine (CL _ (HSE.out _ S)).mono ?_; rintro e w ⟨rfl, hb⟩; replace S := S.grow hb; clear hb))
              clear f2
              go_wp2_with (first | (refine wpList_litY rfl S _ _ rfl 33 Try.underlying25 infoLy _ _ rfl ?_; intro g w L hM T; clear F S; (try rw [HL.out] at hM); clear HL; (try simp [Act.put, Act.eval, Value.cells, splice] at hM); have HL := Lib.hid hM; clear hM; have S := T; clear T; have F := factsAll HL S; (try simp only [factsOf, cellsFrom, and_true, true_and, Nat.reduceAdd] at F)) | (refine wpList_append_boxB rfl S _ _ _ rfl 33 _ 2 32 Try.underlying25 infoLy rfl (by omega) _ _ _ _ rfl (by first | exact atOf HL (p := 0) rfl | exact atOf HL (p := 1) rfl | exact atOf HL (p := 2) rfl | exact atOf HL (p := 3) rfl | exact atOf HL (p := 4) rfl | exact atOf HL (p := 5) rfl | exact atOf HL (p := 6) rfl | exact atOf HL (p := 7) rfl) (by omega) _ _ _ _ _ _ rfl (by first | exact atOf HL (p := 0) rfl | exact atOf HL (p := 1) rfl | exact atOf HL (p := 2) rfl | exact atOf HL (p := 3) rfl | exact atOf HL (p := 4) rfl | exact atOf HL (p := 5) rfl | exact atOf HL (p := 6) rfl | exact atOf HL (p := 7) rfl) rfl rfl rfl rfl ?_; intro u w L hM T; clear F S; (try rw [HL.out] at hM); clear HL; (try simp [Act.put, Act.eval, Value.cells, splice] at hM); have HL := Lib.hid hM; clear hM; have S := T; clear T; have F := factsAll HL S; (try simp only [factsOf, cellsFrom, and_true, true_and, Nat.reduceAdd] at F)))
              go_roundw
              case rel =>
                rw [HL.out] at S
                have T := (S.sub (.cons _ (.cons_cons _ (.cons _ (.refl _))))).perm (jn_perm4 _ _ _ _)
                refine ⟨k + 1, _, qs ++ [(.slice Au j cu, kind, ps)], _, by omega, by go_num, rfl, Lib.hid (fun _ => h4), Lib.hid ?_, Lib.hid ?_, Lib.hid rfl, ?_⟩
                · rw [List.map_append, HP.out, take_at HG.out, List.map_append]
                  have e : lyO (.slice Au j cu, kind, ps) = joinLy ⟨kind, ms⟩ := by
                    show Ly.mk kind (ps.map Prod.snd) = Ly.mk kind (ms.map joinMx)
                    rw [HP2.out, List.take_of_length_le (Nat.le_of_eq HM.out)]
                  show _ ++ [lyO (.slice Au j cu, kind, ps)] = _
                  rw [e]
                  rfl
                · intro q l hq hl
                  by_cases h : q = k
                  · subst h
                    rw [HG.out] at hl
                    injection hl with hl
                    subst hl
                    exact HOKN.out
                  · exact HOK.out q l (by omega) hl
                · have e1 : cellsL (qs ++ [(Value.slice Au j cu, kind, ps)]) = cellsL qs ++ [.int .i64 kind, .slice Au j cu] := by
                    rw [cellsL_add]; rfl
                  have e2 : rowsL (qs ++ [(Value.slice Au j cu, kind, ps)]) = rowsL qs ++ (.row 55 3 (.slice Au j cu) j (cellsM ps) :: rowsM ps) := by
                    rw [rowsL_add]
                    show rowsL qs ++ (entsM (.slice Au j cu) ps ++ []) = _
                    rw [List.append_nil]
                    unfold entsM
                    rw [HPS.out]
                  rw [e1, e2]
                  exact T
              case measure => simp [intOf]; omega
            · obtain ⟨rfl, rfl⟩ : b = false ∧ js = [] := by
                have := HJ.out
                rw [joinRes_many (by rw [HN.out]; exact h4)] at this
                injection this with e1 e2
                exact ⟨e1.symm, e2.symm⟩
              go_wp2_with (first | (go_at_call 39; refine (CL _ (HSE.out _ S)).mono ?_; rintro e w ⟨rfl, hb⟩; replace S := S.grow hb; clear hb) | (refine wpList_empty rfl S _ rfl 33 Try.underlying25 infoLy ?_; intro g w L hM T; clear F S; (try rw [HL.out] at hM); clear HL; (try simp [Act.put, Act.eval, Value.cells, splice] at hM); have HL := Lib.hid hM; clear hM; have S := T; clear T; have F := factsAll HL S; (try simp only [factsOf, cellsFrom, and_true, true_and, Nat.reduceAdd] at F)))
              refine ret2 rfl (show _ = _ from rfl) (show _ = _ from rfl) rfl ?_
              rw [HL.out] at S
              exact ⟨_, [], rfl, rfl, St.rebase HBB.out (S.sub (.cons_cons _ (List.nil_sublist _)))⟩
    · obtain rfl : k = n := by omega
      have h4 : k ≤ 4 := by
        rcases Nat.eq_zero_or_pos k with h0 | h0
        · omega
        · exact H4.out h0
      have he : joinRes ls = (true, ls.map joinLy) := joinRes_ok (by rw [HN.out]; exact h4) (by rw [HN.out]; exact HOK.out)
      obtain ⟨rfl, rfl⟩ : b = true ∧ js = ls.map joinLy := by
        have := HJ.out
        rw [he] at this
        injection this with e1 e2
        exact ⟨e1.symm, e2.symm⟩
      clear he
      go_wp2
      refine ret2 rfl (show _ = _ from rfl) (show _ = _ from rfl) rfl ?_
      rw [HL.out] at S
      refine ⟨_, qs, rfl, ?_, ?_⟩
      · rw [HP.out, List.take_of_length_le (Nat.le_of_eq HN.out)]
      · unfold entsL
        rw [HPL.out]
        exact St.rebase HBB.out S

/-! ### The laws' own comparison of lists of ints. -/
open Go Go.RowKit
set_option maxHeartbeats 8000000
set_option maxRecDepth 20000
theorem C_sameInts (u v : Value) (xs : List Int) (w0 : World) (hu : Ints w0 u xs) (hv : Ints w0 v xs) :
    Calls Try.prog 64 #[u, v] w0 fun e w' => e = .returned (.bool true) ∧ Below w0.heap.size w0 w' := by
  obtain ⟨_, A, cap, rfl, hcap, hmax, hA⟩ := hu
  obtain ⟨_, B, cap', rfl, hcap', hmax', hB⟩ := hv
  obtain ⟨n, hx⟩ : ∃ n, xs.length = n := ⟨_, rfl⟩
  rw [hx] at hcap hcap' hA hB ⊢
  have HX := Lib.hid hx
  have HA := Lib.hid hA
  have HB := Lib.hid hB
  clear hA hB hx
  unfold maxLen at hmax hmax'
  obtain ⟨L, HL, S⟩ := st_start w0; have F : True := trivial
  go_enter Try.func64, Try.ntmps64
  go_wp2
  go_loopw [5] (fun i wr => ∃ (k : Nat), k ≤ n ∧ i = .int .i64 k ∧ St w0 wr L) (fun i _ => n - (intOf i).toNat)
  case atStart => exact ⟨0, Nat.zero_le _, rfl, S⟩
  case round =>
    clear S
    obtain ⟨k, hk, rfl, S⟩ := hrel
    by_cases hlt : k < n
    · obtain ⟨b, off, rfl, hb, hc⟩ := HA.out (by omega)
      obtain ⟨b', off', rfl, hb', hc'⟩ := HB.out (by omega)
      have c1 := fun w' (S' : St w0 w' L) => (S'.below.cell (p := ⟨b, off + k, none⟩) hb).trans (hc k _ (ints_getD xs k (by rw [HX.out]; exact hlt)))
      have c2 := fun w' (S' : St w0 w' L) => (S'.below.cell (p := ⟨b', off' + k, none⟩) hb').trans (hc' k _ (ints_getD xs k (by rw [HX.out]; exact hlt)))
      clear hc hc'
      go_wp2_with fail
      have HL0 := HL; have F0 := F; refine wp_region_tree (S := fun w' => St w0 w' L) (.calm 0 (.calm 1 (.calm 2 (.calm 3 (.calm 4 (.calm 5 (.calm 6 (.calm 7 (.calm 8 .fin))))))))) (by kernel_rfl) (by kernel_rfl) (by kernel_rfl) (by intro c a d v w h; cases d <;> exact h) ?_; replace S := S.drew
      repeat (first | (first | (refine tree_calm (v := ?_) ?_ rfl (by decide +kernel) rfl ?_ ?_; rotate_left; (focus (first | exact S | (refine S.sub (subL HL0 HL ?_); (repeat (first | exact List.Sublist.refl _ | apply List.Sublist.cons)); done))); (focus (intro w' hS'; (try dsimp only at hS'); go_simp; try rfl)); (try simp only [Act.put, List.setIfInBounds_toArray, List.set_cons_zero, List.set_cons_succ])) | (refine tree_any (v := ?_) ?_ rfl rfl ?_ ?_; rotate_left; (focus (first | exact S | (refine S.sub (subL HL0 HL ?_); (repeat (first | exact List.Sublist.refl _ | apply List.Sublist.cons)); done))); (focus (intro w'; go_simp; try rfl)); (try simp only [Act.put, List.setIfInBounds_toArray, List.set_cons_zero, List.set_cons_succ]))) | (refine tree_skip ?_ rfl rfl ?_; (focus (first | exact S | (refine S.sub (subL HL0 HL ?_); (repeat (first | exact List.Sublist.refl _ | apply List.Sublist.cons)); done))); (try simp only [Act.put, List.setIfInBounds_toArray, List.set_cons_zero, List.set_cons_succ])) | (refine tree_act rfl rfl ?_ tree_stop; intro K hK; go_wp2_with (first | fail); (refine hK.out _ _ ?_ ?_; (focus (first | exact fun _ => S | (intro _; refine S.sub (subL HL0 HL ?_); (repeat (first | exact List.Sublist.refl _ | apply List.Sublist.cons)); done) | (refine sink_no ?_; kernel_rfl))); clear hK K; (try simp only [Act.put, List.setIfInBounds_toArray, List.set_cons_zero, List.set_cons_succ]))))
      refine tree_fin ?_
      go_wp2
      go_roundw
      case rel => exact ⟨k + 1, by omega, by go_num, S⟩
      case measure => simp [intOf]; omega
    · obtain rfl : k = n := by omega
      go_wp2
      go_ret
      exact ⟨rfl, S.below⟩
theorem C_alive (w0 : World) : Calls Try.prog 12 #[] w0 fun e w' => e = .returned (.bool true) ∧ w0 = w' := by
  go_enter Try.func12, Try.ntmps12
  go_wp2_with (first | (go_at_call 40; refine (C_impl_RingValid _ _).mono ?_; rintro e w' ⟨rfl, rfl⟩))
  go_ret
  exact ⟨rfl, rfl⟩

/-! ### Contracts: whether matrices, networks, shared networks are the same (the laws'). -/
open Go Go.RowKit
set_option maxHeartbeats 8000000
set_option maxRecDepth 20000
theorem C_sameMxL (r c : Int) (xs : List Int) (u v : Value) (w0 : World) (hu : Ints w0 u xs) (hv : Ints w0 v xs) :
    Calls Try.prog 30 #[.agg #[.int .i64 r, .int .i64 c, u], .agg #[.int .i64 r, .int .i64 c, v]] w0 fun e w' => e = .returned (.bool true) ∧ Below w0.heap.size w0 w' := by
  obtain ⟨L, HL, S⟩ := st_start w0; have F : True := trivial
  go_enter Try.func30, Try.ntmps30
  go_upto_region 1 with (first | (refine wpList_box rfl S _ _ rfl ?_; intro g w L hM T; clear F S; (try rw [HL.out] at hM); clear HL; (try simp [Act.put, Act.eval, Value.cells, splice] at hM); have HL := Lib.hid hM; clear hM; have S := T; clear T; have F := factsAll HL S; (try simp only [factsOf, cellsFrom, and_true, true_and, Nat.reduceAdd] at F)))
  go_wp2_with (first | (go_at_call 64; refine (C_sameInts _ _ xs _ (hu.at_ S) (hv.at_ S)).mono ?_; rintro e w ⟨rfl, hb⟩; replace S := S.grow hb; clear hb))
  go_ret
  exact ⟨rfl, S.below⟩
theorem C_sameSsL (r c : Int) (xs : List Int) (r' c' : Int) (ys : List Int) (u v u' v' : Value) (w0 : World) (hu : Ints w0 u xs) (hv : Ints w0 v ys) (hu' : Ints w0 u' xs) (hv' : Ints w0 v' ys) :
    Calls Try.prog 50 #[.agg #[.int .i64 r, .int .i64 c, u, .int .i64 r', .int .i64 c', v], .agg #[.int .i64 r, .int .i64 c, u', .int .i64 r', .int .i64 c', v']] w0 fun e w' => e = .returned (.bool true) ∧ Below w0.heap.size w0 w' := by
  obtain ⟨L, HL, S⟩ := st_start w0; have F : True := trivial
  go_enter Try.func50, Try.ntmps50
  go_wp2_with (first | (refine wpList_box rfl S _ _ rfl ?_; intro g w L hM T; clear F S; (try rw [HL.out] at hM); clear HL; (try simp [Act.put, Act.eval, Value.cells, splice] at hM); have HL := Lib.hid hM; clear hM; have S := T; clear T; have F := factsAll HL S; (try simp only [factsOf, cellsFrom, and_true, true_and, Nat.reduceAdd] at F))  | (refine wpList_store_box rfl S _ _ _ rfl 0 _ _ _ _ (atOf HL rfl) rfl _ rfl (by kernel_rfl) rfl rfl ?_; intro w L hM T; clear F S; (try rw [HL.out] at hM); clear HL; (try simp [Act.put, Act.eval, Value.cells, splice] at hM); have HL := Lib.hid hM; clear hM; have S := T; clear T; have F := factsAll HL S; (try simp only [factsOf, cellsFrom, and_true, true_and, Nat.reduceAdd] at F)) | (refine wpList_store_box rfl S _ _ _ rfl 1 _ _ _ _ (atOf HL rfl) rfl _ rfl (by kernel_rfl) rfl rfl ?_; intro w L hM T; clear F S; (try rw [HL.out] at hM); clear HL; (try simp [Act.put, Act.eval, Value.cells, splice] at hM); have HL := Lib.hid hM; clear hM; have S := T; clear T; have F := factsAll HL S; (try simp only [factsOf, cellsFrom, and_true, true_and, Nat.reduceAdd] at F)) | (refine wpList_store_box rfl S _ _ _ rfl 2 _ _ _ _ (atOf HL rfl) rfl _ rfl (by kernel_rfl) rfl rfl ?_; intro w L hM T; clear F S; (try rw [HL.out] at hM); clear HL; (try simp [Act.put, Act.eval, Value.cells, splice] at hM); have HL := Lib.hid hM; clear hM; have S := T; clear T; have F := factsAll HL S; (try simp only [factsOf, cellsFrom, and_true, true_and, Nat.reduceAdd] at F)) | (refine wpList_store_box rfl S _ _ _ rfl 3 _ _ _ _ (atOf HL rfl) rfl _ rfl (by kernel_rfl) rfl rfl ?_; intro w L hM T; clear F S; (try rw [HL.out] at hM); clear HL; (try simp [Act.put, Act.eval, Value.cells, splice] at hM); have HL := Lib.hid hM; clear hM; have S := T; clear T; have F := factsAll HL S; (try simp only [factsOf, cellsFrom, and_true, true_and, Nat.reduceAdd] at F))  | (go_at_call 30; refine (C_sameMxL _ _ _ _ _ _ (by first | exact hu.at_ S | exact hv.at_ S) (by first | exact hu'.at_ S | exact hv'.at_ S)).mono ?_; rintro e w ⟨rfl, hb⟩; replace S := S.grow hb; clear hb))
  go_ret
  exact ⟨rfl, S.below⟩
theorem C_sameLayers (u v : Value) (ls : List Ly) (w0 : World) (hu : SeesLs w0 u ls) (hv : SeesLs w0 v ls) :
    Calls Try.prog 11 #[u, v] w0 fun e w' => e = .returned (.bool true) ∧ Below w0.heap.size w0 w' := by
  obtain ⟨A, cap, rfl, hcap, hmax, hA⟩ := hu
  obtain ⟨B, cap', rfl, hcap', hmax', hB⟩ := hv
  obtain ⟨n, hn⟩ : ∃ n, ls.length = n := ⟨_, rfl⟩
  rw [hn] at hcap hcap' hA hB ⊢
  have HN := Lib.hid hn
  have HA := Lib.hid hA
  have HB := Lib.hid hB
  clear hA hB hn
  unfold maxLen at hmax hmax'
  obtain ⟨L, HL, S⟩ := st_start w0; have F : True := trivial
  go_enter Try.func11, Try.ntmps11
  go_wp2
  go_loopw [5] (fun i wr => ∃ (k : Nat), k ≤ n ∧ i = .int .i64 k ∧ St w0 wr L) (fun i _ => n - (intOf i).toNat)
  case atStart => exact ⟨0, Nat.zero_le _, rfl, S⟩
  case round =>
    clear S
    obtain ⟨k, hk, rfl, S⟩ := hrel
    by_cases hlt : k < n
    · obtain ⟨b, off, rfl, hb, hc⟩ := HA.out (by omega)
      obtain ⟨b', off', rfl, hb', hc'⟩ := HB.out (by omega)
      obtain ⟨l, hm⟩ := some_at HN.out hlt
      obtain ⟨kind, ms⟩ := l
      obtain ⟨x, c1, c2, hx⟩ := hc k _ hm
      obtain ⟨y, d1, d2, hy⟩ := hc' k _ hm
      dsimp only at c1 c2 hx d1 d2 hy
      obtain ⟨m, hmm⟩ : ∃ m, ms.length = m := ⟨_, rfl⟩
      obtain ⟨Ax, capx, rfl, hcx, hmx, hAx⟩ := hx
      obtain ⟨Ay, capy, rfl, hcy, hmy, hAy⟩ := hy
      rw [hmm] at hcx hcy hAx hAy c2 d2
      have HM := Lib.hid hmm
      have HX := Lib.hid hAx
      have HY := Lib.hid hAy
      have C2 := Lib.hid c2
      have D2 := Lib.hid d2
      have f1 := fun w' (S' : St w0 w' L) => (S'.below.cell (p := ⟨b, off + k * 2, none⟩) hb).trans c1
      have f2 := fun w' (S' : St w0 w' L) => (S'.below.cell (p := ⟨b, off + k * 2 + 1, none⟩) hb).trans c2
      have g1 := fun w' (S' : St w0 w' L) => (S'.below.cell (p := ⟨b', off' + k * 2, none⟩) hb').trans d1
      have g2 := fun w' (S' : St w0 w' L) => (S'.below.cell (p := ⟨b', off' + k * 2 + 1, none⟩) hb').trans d2
      clear hc hc' c1 c2 d1 d2 hm hmm hAx hAy
      unfold maxLen at hmx hmy
      have hkn : (k : Int) < (n : Int) := by omega
      go_upto_region 6 with fail
      have HL0 := HL; have F0 := F; refine wp_region_tree (S := fun w' => St w0 w' L) (.calm 0 (.calm 1 (.calm 2 (.calm 3 (.calm 4 (.calm 5 (.calm 6 (.calm 7 (.calm 8 (.calm 9 (.calm 10 (.calm 11 (.calm 12 (.calm 13 (.calm 14 (.calm 15 (.calm 16 (.calm 17 (.calm 18 (.calm 19 (.calm 20 (.calm 21 (.calm 22 (.calm 23 (.calm 24 (.calm 25 .fin)))))))))))))))))))))))))) (by kernel_rfl) (by kernel_rfl) (by kernel_rfl) (by intro c a d v w h; cases d <;> exact h) ?_; replace S := S.drew
      repeat (first | (first | (refine tree_calm (v := ?_) ?_ rfl (by decide +kernel) rfl ?_ ?_; rotate_left; (focus (first | exact S | (refine S.sub (subL HL0 HL ?_); (repeat (first | exact List.Sublist.refl _ | apply List.Sublist.cons)); done))); (focus (intro w' hS'; (try dsimp only at hS'); go_simp; try rfl)); (try simp only [Act.put, List.setIfInBounds_toArray, List.set_cons_zero, List.set_cons_succ])) | (refine tree_any (v := ?_) ?_ rfl rfl ?_ ?_; rotate_left; (focus (first | exact S | (refine S.sub (subL HL0 HL ?_); (repeat (first | exact List.Sublist.refl _ | apply List.Sublist.cons)); done))); (focus (intro w'; go_simp; try rfl)); (try simp only [Act.put, List.setIfInBounds_toArray, List.set_cons_zero, List.set_cons_succ]))) | (refine tree_skip ?_ rfl rfl ?_; (focus (first | exact S | (refine S.sub (subL HL0 HL ?_); (repeat (first | exact List.Sublist.refl _ | apply List.Sublist.cons)); done))); (try simp only [Act.put, List.setIfInBounds_toArray, List.set_cons_zero, List.set_cons_succ])) | (refine tree_actSkip rfl rfl ?_ ?_ tree_stop; (focus (first | exact S | (refine S.sub (subL HL0 HL ?_); (repeat (first | exact List.Sublist.refl _ | apply List.Sublist.cons)); done))); (try simp only [Act.put, List.setIfInBounds_toArray, List.set_cons_zero, List.set_cons_succ])) | (refine tree_act rfl rfl ?_ tree_stop; intro K hK; go_wp2_with (first | fail); (refine hK.out _ _ ?_ ?_; (focus (first | exact fun _ => S | (intro _; refine S.sub (subL HL0 HL ?_); (repeat (first | exact List.Sublist.refl _ | apply List.Sublist.cons)); done) | (refine sink_no ?_; kernel_rfl))); clear hK K; (try simp only [Act.put, List.setIfInBounds_toArray, List.set_cons_zero, List.set_cons_succ]))))
      refine tree_fin ?_
      clear HL0 F0 f1 g1
      go_wp2
      go_loopw [6] (fun i wr => ∃ (j : Nat), j ≤ m ∧ i = .int .i64 j ∧ St w0 wr L) (fun i _ => m - (intOf i).toNat)
      case atStart => exact ⟨0, Nat.zero_le _, rfl, S⟩
      case round =>
        clear S
        obtain ⟨j, hj, rfl, S⟩ := hrel
        by_cases hlt2 : j < m
        · obtain ⟨bi, oi, rfl, hbi, hci⟩ := HX.out (by omega)
          obtain ⟨bj, oj, rfl, hbj, hcj⟩ := HY.out (by omega)
          obtain ⟨mm, hm2⟩ := some_at HM.out hlt2
          obtain ⟨r, c, xs⟩ := mm
          obtain ⟨x1, d1, d2, d3, hx1⟩ := hci j _ hm2
          obtain ⟨y1, e1, e2, e3, hy1⟩ := hcj j _ hm2
          dsimp only at d1 d2 d3 hx1 e1 e2 e3 hy1
          have H1 := Lib.hid hx1
          have G1 := Lib.hid hy1
          obtain ⟨-, A1, k1, rfl, hk1, hm1, -⟩ := hx1
          obtain ⟨-, B1, l1, rfl, hl1, hn1, -⟩ := hy1
          by_cases hok : True
          ·
            have P1 := Lib.hid d1
            have Q1 := Lib.hid e1
            have P2 := Lib.hid d2
            have Q2 := Lib.hid e2
            have P3 := Lib.hid d3
            have Q3 := Lib.hid e3
            clear hci hcj hm2 d1 e1 d2 e2 d3 e3 hok
            have hjm : (j : Int) < (m : Int) := by omega
            go_upto_region 11 with fail
            have p1 := fun w' (S' : St w0 w' L) => (S'.below.cell (p := ⟨bi, oi + j * 3, none⟩) hbi).trans P1.out
            have q1 := fun w' (S' : St w0 w' L) => (S'.below.cell (p := ⟨bj, oj + j * 3, none⟩) hbj).trans Q1.out
            have p2 := fun w' (S' : St w0 w' L) => (S'.below.cell (p := ⟨bi, oi + j * 3 + 1, none⟩) hbi).trans P2.out
            have q2 := fun w' (S' : St w0 w' L) => (S'.below.cell (p := ⟨bj, oj + j * 3 + 1, none⟩) hbj).trans Q2.out
            have p3 := fun w' (S' : St w0 w' L) => (S'.below.cell (p := ⟨bi, oi + j * 3 + 2, none⟩) hbi).trans P3.out
            have q3 := fun w' (S' : St w0 w' L) => (S'.below.cell (p := ⟨bj, oj + j * 3 + 2, none⟩) hbj).trans Q3.out
            have HL0 := HL; have F0 := F; refine wp_region_tree (S := fun w' => St w0 w' L) (.calm 0 (.calm 1 (.calm 2 (.calm 3 (.calm 4 (.calm 5 (.calm 6 (.calm 7 (.calm 8 (.calm 9 (.calm 10 (.calm 11 (.calm 12 (.calm 13 (.calm 14 (.calm 15 (.act 16 (.calm 17 .fin) .stop))))))))))))))))) (by kernel_rfl) (by kernel_rfl) (by kernel_rfl) (by intro c a d v w h; cases d <;> exact h) ?_; replace S := S.drew
            repeat (first | (first | (refine tree_calm (v := ?_) ?_ rfl (by decide +kernel) rfl ?_ ?_; rotate_left; (focus (first | exact S | (refine S.sub (subL HL0 HL ?_); (repeat (first | exact List.Sublist.refl _ | apply List.Sublist.cons)); done))); (focus (intro w' hS'; (try dsimp only at hS'); go_simp; try rfl)); (try simp only [Act.put, List.setIfInBounds_toArray, List.set_cons_zero, List.set_cons_succ])) | (refine tree_any (v := ?_) ?_ rfl rfl ?_ ?_; rotate_left; (focus (first | exact S | (refine S.sub (subL HL0 HL ?_); (repeat (first | exact List.Sublist.refl _ | apply List.Sublist.cons)); done))); (focus (intro w'; go_simp; try rfl)); (try simp only [Act.put, List.setIfInBounds_toArray, List.set_cons_zero, List.set_cons_succ]))) | (refine tree_skip ?_ rfl rfl ?_; (focus (first | exact S | (refine S.sub (subL HL0 HL ?_); (repeat (first | exact List.Sublist.refl _ | apply List.Sublist.cons)); done))); (try simp only [Act.put, List.setIfInBounds_toArray, List.set_cons_zero, List.set_cons_succ])) | (refine tree_actSkip rfl rfl ?_ ?_ tree_stop; (focus (first | exact S | (refine S.sub (subL HL0 HL ?_); (repeat (first | exact List.Sublist.refl _ | apply List.Sublist.cons)); done))); (try simp only [Act.put, List.setIfInBounds_toArray, List.set_cons_zero, List.set_cons_succ])) | (refine tree_act rfl rfl ?_ tree_stop; intro K hK; go_wp2_with (first | (go_at_call 30; refine (C_sameMxL r c xs _ _ _ (H1.out.at_ S) (G1.out.at_ S)).mono ?_; rintro e w ⟨rfl, hb⟩; replace S := S.grow hb; clear hb)); (refine hK.out _ _ ?_ ?_; (focus (first | exact fun _ => S | (intro _; refine S.sub (subL HL0 HL ?_); (repeat (first | exact List.Sublist.refl _ | apply List.Sublist.cons)); done) | (refine sink_no ?_; kernel_rfl))); clear hK K; (try simp only [Act.put, List.setIfInBounds_toArray, List.set_cons_zero, List.set_cons_succ]))))
            refine tree_fin ?_
            clear HL0 F0 p1 q1 p2 q2 p3 q3
            go_wp2
            go_roundw
            case rel => exact ⟨j + 1, by omega, by go_num, S⟩
            case measure => simp [intOf]; omega
          · exact absurd trivial hok
        · obtain rfl : j = m := by omega
          go_wp2
          go_roundw
          case rel => exact ⟨k + 1, by omega, by go_num, S⟩
          case measure => simp [intOf]; omega
    · obtain rfl : k = n := by omega
      go_wp2
      go_ret
      exact ⟨rfl, S.below⟩
theorem C_sameShared (u v : Value) (ls : List SLy) (w0 : World) (hu : SeesSLs w0 u ls) (hv : SeesSLs w0 v ls) :
    Calls Try.prog 17 #[u, v] w0 fun e w' => e = .returned (.bool true) ∧ Below w0.heap.size w0 w' := by
  obtain ⟨A, cap, rfl, hcap, hmax, hA⟩ := hu
  obtain ⟨B, cap', rfl, hcap', hmax', hB⟩ := hv
  obtain ⟨n, hn⟩ : ∃ n, ls.length = n := ⟨_, rfl⟩
  rw [hn] at hcap hcap' hA hB ⊢
  have HN := Lib.hid hn
  have HA := Lib.hid hA
  have HB := Lib.hid hB
  clear hA hB hn
  unfold maxLen at hmax hmax'
  obtain ⟨L, HL, S⟩ := st_start w0; have F : True := trivial
  go_enter Try.func17, Try.ntmps17
  go_wp2
  go_loopw [5] (fun i wr => ∃ (k : Nat), k ≤ n ∧ i = .int .i64 k ∧ St w0 wr L) (fun i _ => n - (intOf i).toNat)
  case atStart => exact ⟨0, Nat.zero_le _, rfl, S⟩
  case round =>
    clear S
    obtain ⟨k, hk, rfl, S⟩ := hrel
    by_cases hlt : k < n
    · obtain ⟨b, off, rfl, hb, hc⟩ := HA.out (by omega)
      obtain ⟨b', off', rfl, hb', hc'⟩ := HB.out (by omega)
      obtain ⟨l, hm⟩ := some_at HN.out hlt
      obtain ⟨kind, ms⟩ := l
      obtain ⟨x, c1, c2, hx⟩ := hc k _ hm
      obtain ⟨y, d1, d2, hy⟩ := hc' k _ hm
      dsimp only at c1 c2 hx d1 d2 hy
      obtain ⟨m, hmm⟩ : ∃ m, ms.length = m := ⟨_, rfl⟩
      obtain ⟨Ax, capx, rfl, hcx, hmx, hAx⟩ := hx
      obtain ⟨Ay, capy, rfl, hcy, hmy, hAy⟩ := hy
      rw [hmm] at hcx hcy hAx hAy c2 d2
      have HM := Lib.hid hmm
      have HX := Lib.hid hAx
      have HY := Lib.hid hAy
      have C2 := Lib.hid c2
      have D2 := Lib.hid d2
      have f1 := fun w' (S' : St w0 w' L) => (S'.below.cell (p := ⟨b, off + k * 2, none⟩) hb).trans c1
      have f2 := fun w' (S' : St w0 w' L) => (S'.below.cell (p := ⟨b, off + k * 2 + 1, none⟩) hb).trans c2
      have g1 := fun w' (S' : St w0 w' L) => (S'.below.cell (p := ⟨b', off' + k * 2, none⟩) hb').trans d1
      have g2 := fun w' (S' : St w0 w' L) => (S'.below.cell (p := ⟨b', off' + k * 2 + 1, none⟩) hb').trans d2
      clear hc hc' c1 c2 d1 d2 hm hmm hAx hAy
      unfold maxLen at hmx hmy
      have hkn : (k : Int) < (n : Int) := by omega
      go_upto_region 6 with fail
      have HL0 := HL; have F0 := F; refine wp_region_tree (S := fun w' => St w0 w' L) (.calm 0 (.calm 1 (.calm 2 (.calm 3 (.calm 4 (.calm 5 (.calm 6 (.calm 7 (.calm 8 (.calm 9 (.calm 10 (.calm 11 (.calm 12 (.calm 13 (.calm 14 (.calm 15 (.calm 16 (.calm 17 (.calm 18 (.calm 19 (.calm 20 (.calm 21 (.calm 22 (.calm 23 (.calm 24 (.calm 25 .fin)))))))))))))))))))))))))) (by kernel_rfl) (by kernel_rfl) (by kernel_rfl) (by intro c a d v w h; cases d <;> exact h) ?_; replace S := S.drew
      repeat (first | (first | (refine tree_calm (v := ?_) ?_ rfl (by decide +kernel) rfl ?_ ?_; rotate_left; (focus (first | exact S | (refine S.sub (subL HL0 HL ?_); (repeat (first | exact List.Sublist.refl _ | apply List.Sublist.cons)); done))); (focus (intro w' hS'; (try dsimp only at hS'); go_simp; try rfl)); (try simp only [Act.put, List.setIfInBounds_toArray, List.set_cons_zero, List.set_cons_succ])) | (refine tree_any (v := ?_) ?_ rfl rfl ?_ ?_; rotate_left; (focus (first | exact S | (refine S.sub (subL HL0 HL ?_); (repeat (first | exact List.Sublist.refl _ | apply List.Sublist.cons)); done))); (focus (intro w'; go_simp; try rfl)); (try simp only [Act.put, List.setIfInBounds_toArray, List.set_cons_zero, List.set_cons_succ]))) | (refine tree_skip ?_ rfl rfl ?_; (focus (first | exact S | (refine S.sub (subL HL0 HL ?_); (repeat (first | exact List.Sublist.refl _ | apply List.Sublist.cons)); done))); (try simp only [Act.put, List.setIfInBounds_toArray, List.set_cons_zero, List.set_cons_succ])) | (refine tree_actSkip rfl rfl ?_ ?_ tree_stop; (focus (first | exact S | (refine S.sub (subL HL0 HL ?_); (repeat (first | exact List.Sublist.refl _ | apply List.Sublist.cons)); done))); (try simp only [Act.put, List.setIfInBounds_toArray, List.set_cons_zero, List.set_cons_succ])) | (refine tree_act rfl rfl ?_ tree_stop; intro K hK; go_wp2_with (first | fail); (refine hK.out _ _ ?_ ?_; (focus (first | exact fun _ => S | (intro _; refine S.sub (subL HL0 HL ?_); (repeat (first | exact List.Sublist.refl _ | apply List.Sublist.cons)); done) | (refine sink_no ?_; kernel_rfl))); clear hK K; (try simp only [Act.put, List.setIfInBounds_toArray, List.set_cons_zero, List.set_cons_succ]))))
      refine tree_fin ?_
      clear HL0 F0 f1 g1
      go_wp2
      go_loopw [6] (fun i wr => ∃ (j : Nat), j ≤ m ∧ i = .int .i64 j ∧ St w0 wr L) (fun i _ => m - (intOf i).toNat)
      case atStart => exact ⟨0, Nat.zero_le _, rfl, S⟩
      case round =>
        clear S
        obtain ⟨j, hj, rfl, S⟩ := hrel
        by_cases hlt2 : j < m
        · obtain ⟨bi, oi, rfl, hbi, hci⟩ := HX.out (by omega)
          obtain ⟨bj, oj, rfl, hbj, hcj⟩ := HY.out (by omega)
          obtain ⟨mm, hm2⟩ := some_at HM.out hlt2
          obtain ⟨⟨r, c, xs⟩, ⟨r', c', ys⟩⟩ := mm
          obtain ⟨x1, x2, d1, d2, d3, d4, d5, d6, hx1, hx2⟩ := hci j _ hm2
          obtain ⟨y1, y2, e1, e2, e3, e4, e5, e6, hy1, hy2⟩ := hcj j _ hm2
          dsimp only at d1 d2 d3 d4 d5 d6 hx1 hx2 e1 e2 e3 e4 e5 e6 hy1 hy2
          have H1 := Lib.hid hx1
          have G1 := Lib.hid hy1
          have H2 := Lib.hid hx2
          have G2 := Lib.hid hy2
          obtain ⟨-, A1, k1, rfl, hk1, hm1, -⟩ := hx1
          obtain ⟨-, B1, l1, rfl, hl1, hn1, -⟩ := hy1
          obtain ⟨-, A2, k2, rfl, hk2, hm2', -⟩ := hx2
          obtain ⟨-, B2, l2, rfl, hl2, hn2, -⟩ := hy2
          by_cases hok : True
          ·
            have P1 := Lib.hid d1
            have Q1 := Lib.hid e1
            have P2 := Lib.hid d2
            have Q2 := Lib.hid e2
            have P3 := Lib.hid d3
            have Q3 := Lib.hid e3
            have P4 := Lib.hid d4
            have Q4 := Lib.hid e4
            have P5 := Lib.hid d5
            have Q5 := Lib.hid e5
            have P6 := Lib.hid d6
            have Q6 := Lib.hid e6
            clear hci hcj hm2 d1 e1 d2 e2 d3 e3 d4 e4 d5 e5 d6 e6 hok
            have hjm : (j : Int) < (m : Int) := by omega
            go_upto_region 11 with fail
            have p1 := fun w' (S' : St w0 w' L) => (S'.below.cell (p := ⟨bi, oi + j * 6, none⟩) hbi).trans P1.out
            have q1 := fun w' (S' : St w0 w' L) => (S'.below.cell (p := ⟨bj, oj + j * 6, none⟩) hbj).trans Q1.out
            have p2 := fun w' (S' : St w0 w' L) => (S'.below.cell (p := ⟨bi, oi + j * 6 + 1, none⟩) hbi).trans P2.out
            have q2 := fun w' (S' : St w0 w' L) => (S'.below.cell (p := ⟨bj, oj + j * 6 + 1, none⟩) hbj).trans Q2.out
            have p3 := fun w' (S' : St w0 w' L) => (S'.below.cell (p := ⟨bi, oi + j * 6 + 2, none⟩) hbi).trans P3.out
            have q3 := fun w' (S' : St w0 w' L) => (S'.below.cell (p := ⟨bj, oj + j * 6 + 2, none⟩) hbj).trans Q3.out
            have p4 := fun w' (S' : St w0 w' L) => (S'.below.cell (p := ⟨bi, oi + j * 6 + 3, none⟩) hbi).trans P4.out
            have q4 := fun w' (S' : St w0 w' L) => (S'.below.cell (p := ⟨bj, oj + j * 6 + 3, none⟩) hbj).trans Q4.out
            have p5 := fun w' (S' : St w0 w' L) => (S'.below.cell (p := ⟨bi, oi + j * 6 + 4, none⟩) hbi).trans P5.out
            have q5 := fun w' (S' : St w0 w' L) => (S'.below.cell (p := ⟨bj, oj + j * 6 + 4, none⟩) hbj).trans Q5.out
            have p6 := fun w' (S' : St w0 w' L) => (S'.below.cell (p := ⟨bi, oi + j * 6 + 5, none⟩) hbi).trans P6.out
            have q6 := fun w' (S' : St w0 w' L) => (S'.below.cell (p := ⟨bj, oj + j * 6 + 5, none⟩) hbj).trans Q6.out
            have HL0 := HL; have F0 := F; refine wp_region_tree (S := fun w' => St w0 w' L) (.calm 0 (.calm 1 (.calm 2 (.calm 3 (.calm 4 (.calm 5 (.calm 6 (.calm 7 (.calm 8 (.calm 9 (.calm 10 (.calm 11 (.calm 12 (.calm 13 (.calm 14 (.calm 15 (.act 16 (.calm 17 .fin) .stop))))))))))))))))) (by kernel_rfl) (by kernel_rfl) (by kernel_rfl) (by intro c a d v w h; cases d <;> exact h) ?_; replace S := S.drew
            repeat (first | (first | (refine tree_calm (v := ?_) ?_ rfl (by decide +kernel) rfl ?_ ?_; rotate_left; (focus (first | exact S | (refine S.sub (subL HL0 HL ?_); (repeat (first | exact List.Sublist.refl _ | apply List.Sublist.cons)); done))); (focus (intro w' hS'; (try dsimp only at hS'); go_simp; try rfl)); (try simp only [Act.put, List.setIfInBounds_toArray, List.set_cons_zero, List.set_cons_succ])) | (refine tree_any (v := ?_) ?_ rfl rfl ?_ ?_; rotate_left; (focus (first | exact S | (refine S.sub (subL HL0 HL ?_); (repeat (first | exact List.Sublist.refl _ | apply List.Sublist.cons)); done))); (focus (intro w'; go_simp; try rfl)); (try simp only [Act.put, List.setIfInBounds_toArray, List.set_cons_zero, List.set_cons_succ]))) | (refine tree_skip ?_ rfl rfl ?_; (focus (first | exact S | (refine S.sub (subL HL0 HL ?_); (repeat (first | exact List.Sublist.refl _ | apply List.Sublist.cons)); done))); (try simp only [Act.put, List.setIfInBounds_toArray, List.set_cons_zero, List.set_cons_succ])) | (refine tree_actSkip rfl rfl ?_ ?_ tree_stop; (focus (first | exact S | (refine S.sub (subL HL0 HL ?_); (repeat (first | exact List.Sublist.refl _ | apply List.Sublist.cons)); done))); (try simp only [Act.put, List.setIfInBounds_toArray, List.set_cons_zero, List.set_cons_succ])) | (refine tree_act rfl rfl ?_ tree_stop; intro K hK; go_wp2_with (first | (go_at_call 50; refine (C_sameSsL r c xs r' c' ys _ _ _ _ _ (H1.out.at_ S) (H2.out.at_ S) (G1.out.at_ S) (G2.out.at_ S)).mono ?_; rintro e w ⟨rfl, hb⟩; replace S := S.grow hb; clear hb)); (refine hK.out _ _ ?_ ?_; (focus (first | exact fun _ => S | (intro _; refine S.sub (subL HL0 HL ?_); (repeat (first | exact List.Sublist.refl _ | apply List.Sublist.cons)); done) | (refine sink_no ?_; kernel_rfl))); clear hK K; (try simp only [Act.put, List.setIfInBounds_toArray, List.set_cons_zero, List.set_cons_succ]))))
            refine tree_fin ?_
            clear HL0 F0 p1 q1 p2 q2 p3 q3 p4 q4 p5 q5 p6 q6
            go_wp2
            go_roundw
            case rel => exact ⟨j + 1, by omega, by go_num, S⟩
            case measure => simp [intOf]; omega
          · exact absurd trivial hok
        · obtain rfl : j = m := by omega
          go_wp2
          go_roundw
          case rel => exact ⟨k + 1, by omega, by go_num, S⟩
          case measure => simp [intOf]; omega
    · obtain rfl : k = n := by omega
      go_wp2
      go_ret
      exact ⟨rfl, S.below⟩

/-! ### Split networks are small: plain. -/
open Go Go.RowKit
def SLyFew (l : SLy) : Prop := l.ws.length ≤ 3 ∧ ∀ m ∈ l.ws, m.a.xs.length ≤ 25 ∧ m.b.xs.length ≤ 25
theorem splitMs_few : ∀ (ms : List Mx) (s : Int), (∀ m ∈ ms, m.xs.length ≤ 25) → (splitMs ms s).1.length = ms.length ∧ ∀ x ∈ (splitMs ms s).1, x.a.xs.length ≤ 25 ∧ x.b.xs.length ≤ 25
  | [], _, _ => ⟨rfl, fun x hx => by cases hx⟩
  | m :: ms, s, h => by
    obtain ⟨h1, h2⟩ := splitMs_few ms (seedAt s m.xs.length) (fun x hx => h x (List.mem_cons_of_mem _ hx))
    have h3 := h m List.mem_cons_self
    refine ⟨congrArg (· + 1) h1, fun x hx => ?_⟩
    rcases List.mem_cons.1 (show x ∈ splitMx m s :: (splitMs ms (seedAt s m.xs.length)).1 from hx) with rfl | hx
    · refine ⟨?_, ?_⟩
      · show (rndTo s m.xs.length).length ≤ 25
        rw [rndTo_length]; exact h3
      · show (tab m.xs.length _).length ≤ 25
        rw [tab_length]; exact h3
    · exact h2 x hx
theorem splitLs_few : ∀ (ls : List Ly) (s : Int), (∀ l ∈ ls, l.ok = true) → (splitLs ls s).1.length = ls.length ∧ ∀ x ∈ (splitLs ls s).1, SLyFew x
  | [], _, _ => ⟨rfl, fun x hx => by cases hx⟩
  | l :: ls, s, h => by
    obtain ⟨h1, h2⟩ := splitLs_few ls (splitMs l.ws s).2 (fun x hx => h x (List.mem_cons_of_mem _ hx))
    obtain ⟨h3, h4⟩ := Ly.ok_ms (h l List.mem_cons_self)
    refine ⟨congrArg (· + 1) h1, fun x hx => ?_⟩
    rcases List.mem_cons.1 (show x ∈ splitLy l s :: (splitLs ls (splitMs l.ws s).2).1 from hx) with rfl | hx
    · obtain ⟨h5, h6⟩ := splitMs_few l.ws s (fun m hm => by
        obtain ⟨_, _, _, _, _, _, _, _, h7, _⟩ := mx_nat (h4 m hm)
        exact h7)
      exact ⟨by show (splitMs l.ws s).1.length ≤ 3; omega, h6⟩
    · exact h2 x hx
theorem splitRes_few {ls : List Ly} {s z : Int} {js : List SLy} (h : splitRes ls s = (js, z)) : js.length ≤ 4 ∧ ∀ l ∈ js, SLyFew l := by
  unfold splitRes at h
  split at h
  · rename_i hc
    rw [Bool.and_eq_true, Bool.and_eq_true, decide_eq_true_eq] at hc
    obtain ⟨h1, h2⟩ := splitLs_few ls s (fun l hl => List.all_eq_true.1 hc.1.2 l hl)
    rw [h] at h1 h2
    exact ⟨by have := hc.1.1; dsimp only at h1; omega, h2⟩
  · injection h with h _
    subst h
    exact ⟨by simp, fun l hl => by cases hl⟩

/-! ### Contract of what draws a shared network. -/
open Go Go.RowKit
set_option maxHeartbeats 8000000
set_option maxRecDepth 20000
theorem fill66 (C : Array Value) (hC : C.size = 12) (a b c d e f a' b' c' d' e' f' : Value) : Instr.fill (fun i => some (i * 6, 6)) C [(0, .agg #[a, b, c, d, e, f]), (1, .agg #[a', b', c', d', e', f'])] = some #[a, b, c, d, e, f, a', b', c', d', e', f'] := by
  obtain ⟨l⟩ := C
  match l, hC with
  | [_, _, _, _, _, _, _, _, _, _, _, _], _ => simp [Instr.fill, Value.cells]
section
variable {P : Program} {w0 w : World} {a : Act} {L : List Ent} {o : Oper} {ops : Array Oper} {rest : List Oper} {Q : Exit → Act → World → Prop}
theorem wpList_lit66 (hgd : o.guard = none) (S : St w0 w L) (t : TypeId) (x y : Operand) (ho : o.op = .buildSlice t 2 #[(0, x), (1, y)])
    (e : TypeId) (ht : P.underlying t = some (.slice e)) {z : Value} {bytes : Nat} (hi : (P.info? e).map (fun i => (i.zero, i.size, i.bytes)) = some (some z, 6, bytes))
    (c0 c1 c2 c3 c4 c5 d0 d1 d2 d3 d4 d5 : Value) (hx : a.eval x = .agg #[c0, c1, c2, c3, c4, c5]) (hy : a.eval y = .agg #[d0, d1, d2, d3, d4, d5])
    (h : ∀ g w' M, M = .box g e [c0, c1, c2, c3, c4, c5, d0, d1, d2, d3, d4, d5] :: L → St w0 w' M → wpList P ops Q rest (a.put o.dst (.slice (some ⟨g, 0, none⟩) 2 2)) w') : wpList P ops Q (o :: rest) a w :=
  wpList_litS hgd S t 2 _ ho e ht hi #[c0, c1, c2, c3, c4, c5, d0, d1, d2, d3, d4, d5] (fun C hC => by
    show Instr.fill _ C [(0, a.eval x), (1, a.eval y)] = _
    rw [hx, hy]; exact fill66 C hC _ _ _ _ _ _ _ _ _ _ _ _) (by omega) (by omega) h
end
def SLFew (q : Value × Int × SMsO) : Prop := SLyFew (slyO q)
/-- A shared network is drawn: the reader, the row of its layers, the rows of the layers, the rest. -/
def DrawsSLs (R : List Ent) (g : Nat) (v : Value) (k : Int) (w0 : World) (e : Ending) (w' : World) : Prop :=
  ∃ (u : Value) (qs : SLsO) (k' : Int), e = .returned u ∧ k ≤ k' ∧ k' ≤ k + 30000 ∧ qs.length ≤ 5 ∧ (∀ q ∈ qs, SLFew q) ∧ St w0 w' (.box g 108 [v, .int .i64 k'] :: .row 36 2 u qs.length (cellsSL qs) :: (rowsSL qs ++ R))
theorem dq_perm (X : List Ent) (rd l : Ent) (A R : List Ent) : (X ++ (rd :: l :: (A ++ R))).Perm (rd :: l :: ((A ++ X) ++ R)) := by
  rw [List.append_assoc]
  exact (List.perm_append_comm_assoc X [rd, l] (A ++ R)).trans (((List.perm_append_comm_assoc X A R).cons l).cons rd)
theorem slfew_add {qs : SLsO} {q : Value × Int × SMsO} (h : ∀ q ∈ qs, SLFew q) (hq : SLFew q) : ∀ x ∈ qs ++ [q], SLFew x := by
  intro x hx
  rcases List.mem_append.1 hx with h1 | h1
  · exact h x h1
  · rw [List.mem_singleton.1 h1]; exact hq
def zsm : Value × Value × SMx := (.slice none 0 0, .slice none 0 0, ⟨⟨0, 0, []⟩, ⟨0, 0, []⟩⟩)
def two2 : Value × Int × SMsO := (.slice none 0 0, 2, [])
theorem few_nil (k : Int) : SLFew (.slice none 0 0, k, []) := ⟨by simp [slyO], fun m hm => by cases hm⟩
theorem lyfew_small {q : Value × Int × MsO} (h : LyFew q) : LySmall 1048576 (lyO q) := by
  obtain ⟨h1, h2⟩ := h
  refine ⟨by show (q.2.2.map Prod.snd).length ≤ _; rw [List.length_map]; omega, fun m hm => ?_⟩
  obtain ⟨p, hp, rfl⟩ := List.mem_map.1 (show m ∈ q.2.2.map Prod.snd from hm)
  have := h2 p hp
  omega
theorem lsmall_of {qs : LsO} (h : ∀ q ∈ qs, LyFew q) : ∀ l ∈ qs.map lyO, LySmall 1048576 l := by
  intro l hl
  obtain ⟨q, hq, rfl⟩ := List.mem_map.1 hl
  exact lyfew_small (h q hq)
theorem sees_mid {w0 w : World} {L R : List Ent} {rd : Ent} {u : Value} {qs : LsO} (S : St w0 w L) (HL : Hid (L = rd :: .row 33 2 u qs.length (cellsL qs) :: (rowsL qs ++ R))) : SeesLs w u (qs.map lyO) := by
  refine sees_ls S ?_
  rw [HL.out]
  intro e he
  rcases List.mem_cons.1 (show e ∈ Ent.row 33 2 u qs.length (cellsL qs) :: rowsL qs from he) with rfl | h1
  · exact List.mem_cons_of_mem _ List.mem_cons_self
  · exact List.mem_cons_of_mem _ (List.mem_cons_of_mem _ (List.mem_append_left _ h1))
theorem sl_add {qs : SLsO} {u : Value} {kd : Int} {ps : SMsO} : rowsSL (qs ++ [(u, kd, ps)]) = rowsSL qs ++ (.row 67 6 u ps.length (cellsSM ps) :: rowsSM ps) := by
  rw [rowsSL_add]
  show rowsSL qs ++ (entsSM u ps ++ []) = _
  rw [List.append_nil]
  rfl
theorem rows_two : ∀ n : Nat, rowsSL (List.replicate n two2) = List.replicate n (.row 67 6 (.slice none 0 0) 0 [])
  | 0 => rfl
  | n + 1 => by
    rw [List.replicate_succ, List.replicate_succ, ← rows_two n]
    rfl
theorem C_l20SharedNet (R : List Ent) (gr : Nat) (v : Value) (k n : Int) (A0 B : Nat) (w0 w1 : World) (hAB : (1 ≤ A0 ∧ A0 ≤ 3) ∧ 1 ≤ B ∧ B ≤ 3) (hn : 0 ≤ n) (S0 : St w0 w1 (.box gr 108 [v, .int .i64 k] :: R)) (hB : Bytes w0 v) (hk : 0 ≤ k ∧ k ≤ 200000000) :
    Calls Try.prog 34 #[.pointer (some ⟨gr, 0, none⟩), .int .i64 A0, .int .i64 B, .int .i64 n] w1 (DrawsSLs R gr v k w0) := by
  have HB := Lib.hid hB
  obtain ⟨k1, k2⟩ := hk
  obtain ⟨⟨A1, A2⟩, B1, B2⟩ := hAB
  clear hB
  obtain ⟨L, HL, S⟩ := st_name S0
  clear S0
  replace HL := Lib.hid HL
  have F := factsAll HL S
  simp only [factsOf, cellsFrom, and_true, true_and, Nat.reduceAdd] at F
  go_enter Try.func34, Try.ntmps34
  go_upto_region 2 with (first | ((go_at_call 42; refine (C_l20Net _ _ _ _ _ _ _ w0 _ ⟨⟨by omega, by omega⟩, by omega, by omega⟩ (by omega) (S.front (by first | exact atOf HL (p := 0) rfl | exact atOf HL (p := 1) rfl | exact atOf HL (p := 2) rfl | exact atOf HL (p := 3) rfl | exact atOf HL (p := 4) rfl | exact atOf HL (p := 5) rfl | exact atOf HL (p := 6) rfl | exact atOf HL (p := 7) rfl)) HB.out ⟨by omega, by omega⟩).mono ?_; rintro e w ⟨u2, qn, k3, rfl, hk3, hk4, hql, hfw, T0⟩; obtain ⟨L, hM, T⟩ := st_name T0; clear T0; clear F S; (try rw [HL.out] at hM); clear HL; (try simp only [List.eraseIdx_cons_zero, List.eraseIdx_cons_succ] at hM); have HL := Lib.hid hM; clear hM; have S := T; clear T; have F := factsAll HL S; (try simp only [factsOf, cellsFrom, and_true, true_and, Nat.reduceAdd] at F)); have HFW := Lib.hid hfw; clear hfw; obtain ⟨A3, c3, rfl, hk5, hm5⟩ := S.sliceOf (atOf HL (p := 1) rfl)) | ((go_at_call 43; refine (C_l20Seed _ _ _ _ _ w0 _ (S.front (by first | exact atOf HL (p := 0) rfl | exact atOf HL (p := 1) rfl | exact atOf HL (p := 2) rfl | exact atOf HL (p := 3) rfl | exact atOf HL (p := 4) rfl | exact atOf HL (p := 5) rfl | exact atOf HL (p := 6) rfl | exact atOf HL (p := 7) rfl)) HB.out ⟨by omega, by omega⟩).mono ?_; rintro e w ⟨y, k4, rfl, hk1, hk2, T0⟩; obtain ⟨L, hM, T⟩ := st_name T0; clear T0; clear F S; (try rw [HL.out] at hM); clear HL; (try simp only [List.eraseIdx_cons_zero, List.eraseIdx_cons_succ] at hM); have HL := Lib.hid hM; clear hM; have S := T; clear T; have F := factsAll HL S; (try simp only [factsOf, cellsFrom, and_true, true_and, Nat.reduceAdd] at F))) | (obtain ⟨js, z, hj⟩ : ∃ js z, splitRes (qn.map lyO) y = (js, z) := ⟨_, _, rfl⟩; go_at_call 16; refine (C_spec_SplitNet _ (qn.map lyO) y z js _ (sees_mid S HL) (by rw [List.length_map]; omega) (lsmall_of HFW.out) hj).mono ?_; rintro e w ⟨u3, qs, rfl, hq, T0⟩; have HJF := Lib.hid (splitRes_few hj); have HQ := Lib.hid hq; clear hj hq; rw [HL.out] at S; have T := ((S.sub (.cons_cons _ (.cons _ (List.sublist_append_right _ _)))).call T0).perm List.perm_middle; have T' : St w0 w (_ :: .row 36 2 u3 qs.length (cellsSL qs) :: (rowsSL qs ++ R)) := T; clear S HL F T0 T; have S := T'; clear T'; obtain ⟨L, hM, T⟩ := st_name S; clear S; have S := T; clear T; have HL := Lib.hid hM; clear hM; have F := factsAll HL S; (try simp only [factsOf, cellsFrom, and_true, true_and, Nat.reduceAdd] at F)))
  have hql4 : qs.length ≤ 4 := by rw [← List.length_map (f := slyO), HQ.out]; exact HJF.out.1
  have HFS : Hid (∀ q ∈ qs, SLFew q) := Lib.hid fun q hq => HJF.out.2 _ (HQ.out ▸ List.mem_map_of_mem hq)
  obtain ⟨Ao, co, rfl, hco, hmo⟩ := S.sliceOf (atOf HL (p := 1) rfl)
  obtain ⟨ln, hln⟩ : ∃ ln, qs.length = ln := ⟨_, rfl⟩
  rw [hln] at hql4 HL hco
  (try rw [hln])
  (try rw [hln] at F)
  have HLN := Lib.hid hln
  clear hln HQ HJF
  go_wp2_with (first | (go_at_call 72; refine (C_odd _ _ _ _ _ w0 _ (S.front (by first | exact atOf HL (p := 0) rfl | exact atOf HL (p := 1) rfl | exact atOf HL (p := 2) rfl | exact atOf HL (p := 3) rfl | exact atOf HL (p := 4) rfl | exact atOf HL (p := 5) rfl | exact atOf HL (p := 6) rfl | exact atOf HL (p := 7) rfl)) HB.out ⟨by omega, by omega⟩).mono ?_; rintro e w ⟨y, k', rfl, hk1, hk2, T0⟩; obtain ⟨L, hM, T⟩ := st_name T0; clear T0; clear F S; (try rw [HL.out] at hM); clear HL; (try simp only [List.eraseIdx_cons_zero, List.eraseIdx_cons_succ] at hM); have HL := Lib.hid hM; clear hM; have S := T; clear T; have F := factsAll HL S; (try simp only [factsOf, cellsFrom, and_true, true_and, Nat.reduceAdd] at F)) | ((go_at_call 35; refine (C_pick _ _ _ _ _ w0 _ (S.front (by first | exact atOf HL (p := 0) rfl | exact atOf HL (p := 1) rfl | exact atOf HL (p := 2) rfl | exact atOf HL (p := 3) rfl | exact atOf HL (p := 4) rfl | exact atOf HL (p := 5) rfl | exact atOf HL (p := 6) rfl | exact atOf HL (p := 7) rfl)) HB.out ⟨by omega, by omega⟩).mono ?_; rintro e w ⟨yp, rfl, hy0, T0⟩; obtain ⟨L, hM, T⟩ := st_name T0; clear T0; clear F S; (try rw [HL.out] at hM); clear HL; (try simp only [List.eraseIdx_cons_zero, List.eraseIdx_cons_succ] at hM); have HL := Lib.hid hM; clear hM; have S := T; clear T; have F := factsAll HL S; (try simp only [factsOf, cellsFrom, and_true, true_and, Nat.reduceAdd] at F)); have hyp := hy0 (by omega); clear hy0) | (refine wpList_lit rfl S _ _ _ rfl 3 Try.underlying53 infoInt (by simp [Act.eval]) (by simp [Act.eval, Value.oneCell']) rfl rfl rfl ?_; intro g w L hM T; clear F S; (try rw [HL.out] at hM); clear HL; (try simp [Act.put, Act.eval, Value.cells, splice] at hM); have HL := Lib.hid hM; clear hM; have S := T; clear T; have F := factsAll HL S; (try simp only [factsOf, cellsFrom, and_true, true_and, Nat.reduceAdd] at F)) | (first | (refine wpList_load_lit rfl S _ _ rfl Try.underlying3 1 _ _ _ _ (atOf HL rfl) rfl (by simp) (by simp; omega) ?_; intro q hq; have hq := id hq; simp only [List.mem_cons, Value.int.injEq, true_and, List.not_mem_nil, or_false] at hq) | (refine wpList_load_lit rfl S _ _ rfl Try.underlying3 2 _ _ _ _ (atOf HL rfl) rfl (by simp) (by simp; omega) ?_; intro q hq; have hq := id hq; simp only [List.mem_cons, Value.int.injEq, true_and, List.not_mem_nil, or_false] at hq) | (refine wpList_load_lit rfl S _ _ rfl Try.underlying3 3 _ _ _ _ (atOf HL rfl) rfl (by simp) (by simp; omega) ?_; intro q hq; have hq := id hq; simp only [List.mem_cons, Value.int.injEq, true_and, List.not_mem_nil, or_false] at hq)) | (refine wpList_litY rfl S _ _ rfl 36 Try.underlying23 infoSLy _ _ rfl ?_; intro g w L hM T; clear F S; (try rw [HL.out] at hM); clear HL; (try simp [Act.put, Act.eval, Value.cells, splice] at hM); have HL := Lib.hid hM; clear hM; have S := T; clear T; have F := factsAll HL S; (try simp only [factsOf, cellsFrom, and_true, true_and, Nat.reduceAdd] at F)) | (refine wpList_lit66 rfl S _ _ _ rfl 67 Try.underlying34 infoSMx _ _ _ _ _ _ _ _ _ _ _ _ rfl rfl ?_; intro gz w L hM T; clear F S; (try rw [HL.out] at hM); clear HL; (try simp [Act.put, Act.eval, Value.cells, splice] at hM); have HL := Lib.hid hM; clear hM; have S := T; clear T; have F := factsAll HL S; (try simp only [factsOf, cellsFrom, and_true, true_and, Nat.reduceAdd] at F)) | (refine wpList_append_boxB rfl S _ _ _ rfl 36 _ 2 32 Try.underlying23 infoSLy rfl (by omega) _ _ _ _ rfl (by first | exact atOf HL (p := 0) rfl | exact atOf HL (p := 1) rfl | exact atOf HL (p := 2) rfl | exact atOf HL (p := 3) rfl | exact atOf HL (p := 4) rfl | exact atOf HL (p := 5) rfl | exact atOf HL (p := 6) rfl | exact atOf HL (p := 7) rfl) (by omega) _ _ _ _ _ _ rfl (by first | exact atOf HL (p := 0) rfl | exact atOf HL (p := 1) rfl | exact atOf HL (p := 2) rfl | exact atOf HL (p := 3) rfl | exact atOf HL (p := 4) rfl | exact atOf HL (p := 5) rfl | exact atOf HL (p := 6) rfl | exact atOf HL (p := 7) rfl) rfl rfl rfl rfl ?_; intro u w L hM T; clear F S; (try rw [HL.out] at hM); clear HL; (try simp [Act.put, Act.eval, Value.cells, splice] at hM); have HL := Lib.hid hM; clear hM; have S := T; clear T; have F := factsAll HL S; (try simp only [factsOf, cellsFrom, and_true, true_and, Nat.reduceAdd] at F)) | (at_make; refine wpList_make rfl S _ _ _ rfl 36 _ 2 32 Try.underlying23 infoSLy _ 5 rfl rfl rfl (by omega) (by simp only [maxLen]; omega) ?_; intro g w L hM T; clear F S; (try rw [HL.out] at hM); clear HL; (try simp [Act.put, Act.eval, Value.cells, splice] at hM); have HL := Lib.hid hM; clear hM; have S := T; clear T; have F := factsAll HL S; (try simp only [factsOf, cellsFrom, and_true, true_and, Nat.reduceAdd] at F)))
  · go_ret
    rw [HL.out] at S
    have T := ((S.sub (.cons _ (.cons_cons _ (.cons _ (.refl _))))).nilRow 67 6).perm (dq_perm [_] _ _ _ _)
    refine ⟨_, qs ++ [(.slice none 0 0, q, [])], k' + 1 + 1, rfl, by omega, by omega, by rw [List.length_append, HLN.out]; simp; omega, slfew_add HFS.out (few_nil _), ?_⟩
    rw [sl_add, cellsSL_add, List.length_append, HLN.out]
    exact T
  · go_ret
    rw [HL.out] at S
    have T := ((((((S.sub (.cons _ (.refl _))).asRow (size := 6) (n := 2) (p := 0) rfl rfl (by simp [maxLen])).nilRow 3 1).nilRow 3 1).nilRow 3 1).nilRow 3 1).perm ((List.perm_append_comm_assoc [_, _, _, _] [_] _).trans (dq_perm [_, _, _, _, _] _ _ _ _))
    refine ⟨_, qs ++ [(.slice (some ⟨gz, 0, none⟩) 2 2, 1, [zsm, zsm])], k' + 1, rfl, by omega, by omega, by rw [List.length_append, HLN.out]; simp; omega, slfew_add HFS.out ?_, ?_⟩
    rotate_left
    · rw [sl_add, cellsSL_add, List.length_append, HLN.out]
      exact T
    · refine ⟨by show [smO zsm, smO zsm].length ≤ 3; simp, fun m hm => ?_⟩
      have hm' : m ∈ [smO zsm, smO zsm] := hm
      simp only [List.mem_cons, List.not_mem_nil, or_false, or_self] at hm'
      subst hm'
      exact ⟨Nat.zero_le _, Nat.zero_le _⟩
  · rw [HL.out] at S
    have e5 : (madeCells #[Value.int .i64 0, Value.slice none 0 0] 10).toList = cellsSL (List.replicate 5 slz) := made_sls 5
    rw [e5] at S
    have T := S.sub (.cons_cons _ (.cons_cons _ (.cons _ (List.sublist_append_right _ _))))
    clear S HL F e5
    have S := T
    clear T
    obtain ⟨L, hM, T⟩ := st_name S; clear S; have S := T; clear T; have HL := Lib.hid hM; clear hM; have F := factsAll HL S; (try simp only [factsOf, cellsFrom, and_true, true_and, Nat.reduceAdd] at F)
    go_loopw [11] (fun i wr => ∃ (j : Nat) (L : List Ent), j ≤ 5 ∧ i = .int .i64 j ∧ Hid (L = .row 36 2 (.slice (some ⟨g, 0, none⟩) 5 5) 5 (cellsSL (List.replicate j two2) ++ cellsSL (List.replicate (5 - j) slz)) :: .box gr 108 [v, .int .i64 (k' + 1)] :: R) ∧ St w0 wr L) (fun i _ => 5 - (intOf i).toNat)
    case atStart => exact ⟨0, L, Nat.zero_le _, rfl, Lib.hid HL.out, S⟩
    case round =>
      clear F HL S
      obtain ⟨j, L, hj, rfl, HL, S⟩ := hrel
      have F : True := trivial
      by_cases hlt : j < 5
      · have hcl := cellsSL_len (List.replicate j two2)
        rw [List.length_replicate] at hcl
        have HC := Lib.hid hcl
        have hrep : List.replicate (5 - j) slz = slz :: List.replicate (5 - (j + 1)) slz := by
          rw [show 5 - j = (5 - (j + 1)) + 1 by omega]; rfl
        rw [HL.out, hrep] at S
        obtain ⟨R5, hR⟩ : ∃ R5, cellsSL (List.replicate (5 - (j + 1)) slz) = R5 := ⟨_, rfl⟩
        have HR := Lib.hid hR
        obtain ⟨Z, hZ⟩ : ∃ Z, cellsSL (List.replicate j two2) = Z := ⟨_, rfl⟩
        have HZ := Lib.hid hZ
        have T : St w0 wr (.row 36 2 (.slice (some ⟨g, 0, none⟩) 5 5) 5 (cellsSL (List.replicate j two2) ++ (.int .i64 0 :: .slice none 0 0 :: cellsSL (List.replicate (5 - (j + 1)) slz))) :: .box gr 108 [v, .int .i64 (k' + 1)] :: R) := S
        rw [hR, hZ] at T
        rw [hZ] at HC
        clear S HL F hrep hcl hR hZ
        have S := T
        clear T
        obtain ⟨L, hM, T⟩ := st_name S; clear S; have S := T; clear T; have HL := Lib.hid hM; clear hM; have F := factsAll HL S; (try simp only [factsOf, cellsFrom, and_true, true_and, Nat.reduceAdd] at F)
        have hj2 : j * 2 + 2 ≤ 5 * 2 := by omega
        go_upto_region 7 with (first | (refine wpList_store_rowS rfl S _ _ _ rfl 0 _ _ _ _ _ _ _ (atOf HL rfl) rfl ([.int .i64 2]) rfl (by kernel_rfl) rfl (show _ + 1 ≤ _ from by omega) ?_; intro w L hM T; clear F S; (try rw [HL.out] at hM); clear HL; (try simp [Act.put, Act.eval, Value.cells] at hM); have HL := Lib.hid hM; clear hM; have S := T; clear T; have F := factsAll HL S; (try simp only [factsOf, cellsFrom, and_true, true_and, Nat.reduceAdd] at F)))
        rw [sp_one HC.out] at HL
        go_wp2
        go_roundw
        case rel =>
          rw [HL.out] at S
          refine ⟨j + 1, _, by omega, by go_num, Lib.hid rfl, ?_⟩
          have e : cellsSL (List.replicate (j + 1) two2) ++ cellsSL (List.replicate (5 - (j + 1)) slz) = Z ++ (.int .i64 2 :: .slice none 0 0 :: R5) := by
            rw [List.replicate_succ', cellsSL_add, HZ.out, HR.out, List.append_assoc]; rfl
          rw [e]
          exact S
        case measure => simp [intOf]; omega
      · obtain rfl : j = 5 := by omega
        go_wp2
        go_ret
        rw [HL.out] at S
        have S2 : St w0 wr (.row 36 2 (.slice (some ⟨g, 0, none⟩) 5 5) 5 (cellsSL (List.replicate 5 two2) ++ []) :: .box gr 108 [v, .int .i64 (k' + 1)] :: R) := S
        rw [List.append_nil] at S2
        have T := ((((((S2.perm (.swap _ _ _)).nilRow 67 6).nilRow 67 6).nilRow 67 6).nilRow 67 6).nilRow 67 6).perm (dq_perm [_, _, _, _, _] _ _ [] _)
        refine ⟨_, List.replicate 5 two2, k' + 1, rfl, by omega, by omega, by simp, fun q hq => ?_, ?_⟩
        · rw [List.eq_of_mem_replicate hq]; exact few_nil 2
        · rw [rows_two]
          exact T
  · go_ret
    rw [HL.out] at S
    refine ⟨_, qs, k', rfl, by omega, by omega, by rw [HLN.out]; omega, HFS.out, ?_⟩
    rw [HLN.out]
    exact S

/-! ### Contracts of what draws networks for splitting and joining. -/
open Go Go.RowKit
set_option maxHeartbeats 8000000
set_option maxRecDepth 20000
/-- A network and a number are drawn. -/
def DrawnLsInt (w0 : World) (e : Ending) (w' : World) : Prop :=
  ∃ (ls : List Ly) (s : Int) (v : Value), e = .returned (.tuple #[v, .int .i64 s]) ∧ (ls.length ≤ 5 ∧ ∀ l ∈ ls, LySmall 1048576 l) ∧ SeesLs w' v ls ∧ Below w0.heap.size w0 w'
/-- A shared network is drawn. -/
def DrawnSLs (w0 : World) (e : Ending) (w' : World) : Prop :=
  ∃ (ls : List SLy) (v : Value), e = .returned v ∧ (ls.length ≤ 5 ∧ ∀ l ∈ ls, SLyFew l) ∧ SeesSLs w' v ls ∧ Below w0.heap.size w0 w'
theorem C_DrawSplitNet (v : Value) (w0 : World) (h : Bytes w0 v) : Calls Try.prog 14 #[v] w0 (DrawnLsInt w0) := by
  have H := Lib.hid h
  clear h
  obtain ⟨L, HL, S⟩ := st_start w0; have F : True := trivial
  go_enter Try.func14, Try.ntmps14
  go_upto_region 2 with (first | (go_at_call 33; refine (C_l20Open _ w0 _ (H.out)).mono ?_; rintro e w ⟨gr, vr, rfl, hB, T0⟩; have HB := Lib.hid hB; clear hB; obtain ⟨L, hM, T⟩ := st_name (S.call T0); clear T0; clear F S; (try rw [HL.out] at hM); clear HL; (try simp [Act.put, Act.eval, Value.cells, splice] at hM); have HL := Lib.hid hM; clear hM; have S := T; clear T; have F := factsAll HL S; (try simp only [factsOf, cellsFrom, and_true, true_and, Nat.reduceAdd] at F)))
  go_upto_region 3 with (first | ((go_at_call 35; refine (C_pick _ _ _ _ _ w0 _ (S.front (by first | exact atOf HL (p := 0) rfl | exact atOf HL (p := 1) rfl | exact atOf HL (p := 2) rfl | exact atOf HL (p := 3) rfl | exact atOf HL (p := 4) rfl | exact atOf HL (p := 5) rfl | exact atOf HL (p := 6) rfl | exact atOf HL (p := 7) rfl)) HB.out ⟨by omega, by omega⟩).mono ?_; rintro e w ⟨y, rfl, hy0, T0⟩; obtain ⟨L, hM, T⟩ := st_name T0; clear T0; clear F S; (try rw [HL.out] at hM); clear HL; (try simp only [List.eraseIdx_cons_zero, List.eraseIdx_cons_succ] at hM); have HL := Lib.hid hM; clear hM; have S := T; clear T; have F := factsAll HL S; (try simp only [factsOf, cellsFrom, and_true, true_and, Nat.reduceAdd] at F)); have hy := hy0 (by omega); clear hy0; obtain ⟨j, hj, hj1, hj2⟩ : ∃ j : Nat, 1 + y = (j : Int) ∧ 1 ≤ j ∧ j ≤ 3 := ⟨(1 + y).toNat, by omega, by omega, by omega⟩; clear hy) | ((go_at_call 42; refine (C_l20Net _ _ _ _ _ _ _ w0 _ ⟨⟨by omega, by omega⟩, by omega, by omega⟩ (by omega) (S.front (by first | exact atOf HL (p := 0) rfl | exact atOf HL (p := 1) rfl | exact atOf HL (p := 2) rfl | exact atOf HL (p := 3) rfl | exact atOf HL (p := 4) rfl | exact atOf HL (p := 5) rfl | exact atOf HL (p := 6) rfl | exact atOf HL (p := 7) rfl)) HB.out ⟨by omega, by omega⟩).mono ?_; rintro e w ⟨u2, qs, k2, rfl, hk3, hk4, hql, hfw, T0⟩; obtain ⟨L, hM, T⟩ := st_name T0; clear T0; clear F S; (try rw [HL.out] at hM); clear HL; (try simp only [List.eraseIdx_cons_zero, List.eraseIdx_cons_succ] at hM); have HL := Lib.hid hM; clear hM; have S := T; clear T; have F := factsAll HL S; (try simp only [factsOf, cellsFrom, and_true, true_and, Nat.reduceAdd] at F)); have HFW := Lib.hid hfw; clear hfw; obtain ⟨A3, c3, rfl, hk5, hm5⟩ := S.sliceOf (atOf HL (p := 1) rfl)))
  go_wp2_with (first | ((go_at_call 43; refine (C_l20Seed _ _ _ _ _ w0 _ (S.front (by first | exact atOf HL (p := 0) rfl | exact atOf HL (p := 1) rfl | exact atOf HL (p := 2) rfl | exact atOf HL (p := 3) rfl | exact atOf HL (p := 4) rfl | exact atOf HL (p := 5) rfl | exact atOf HL (p := 6) rfl | exact atOf HL (p := 7) rfl)) HB.out ⟨by omega, by omega⟩).mono ?_; rintro e w ⟨z, k4, rfl, hk1, hk2, T0⟩; obtain ⟨L, hM, T⟩ := st_name T0; clear T0; clear F S; (try rw [HL.out] at hM); clear HL; (try simp only [List.eraseIdx_cons_zero, List.eraseIdx_cons_succ] at hM); have HL := Lib.hid hM; clear hM; have S := T; clear T; have F := factsAll HL S; (try simp only [factsOf, cellsFrom, and_true, true_and, Nat.reduceAdd] at F))))
  refine ret2 rfl (show _ = _ from rfl) (show _ = _ from rfl) rfl ?_
  refine ⟨qs.map lyO, z, _, rfl, ⟨by rw [List.length_map]; omega, lsmall_of HFW.out⟩, ?_, S.below⟩
  rw [HL.out] at S
  exact sees_mid (R := []) S (Lib.hid rfl)
theorem C_DrawJoinNet (v : Value) (w0 : World) (h : Bytes w0 v) : Calls Try.prog 8 #[v] w0 (DrawnSLs w0) := by
  have H := Lib.hid h
  clear h
  obtain ⟨L, HL, S⟩ := st_start w0; have F : True := trivial
  go_enter Try.func8, Try.ntmps8
  go_upto_region 2 with (first | (go_at_call 33; refine (C_l20Open _ w0 _ (H.out)).mono ?_; rintro e w ⟨gr, vr, rfl, hB, T0⟩; have HB := Lib.hid hB; clear hB; obtain ⟨L, hM, T⟩ := st_name (S.call T0); clear T0; clear F S; (try rw [HL.out] at hM); clear HL; (try simp [Act.put, Act.eval, Value.cells, splice] at hM); have HL := Lib.hid hM; clear hM; have S := T; clear T; have F := factsAll HL S; (try simp only [factsOf, cellsFrom, and_true, true_and, Nat.reduceAdd] at F)))
  go_wp2_with (first | ((go_at_call 35; refine (C_pick _ _ _ _ _ w0 _ (S.front (by first | exact atOf HL (p := 0) rfl | exact atOf HL (p := 1) rfl | exact atOf HL (p := 2) rfl | exact atOf HL (p := 3) rfl | exact atOf HL (p := 4) rfl | exact atOf HL (p := 5) rfl | exact atOf HL (p := 6) rfl | exact atOf HL (p := 7) rfl)) HB.out ⟨by omega, by omega⟩).mono ?_; rintro e w ⟨y, rfl, hy0, T0⟩; obtain ⟨L, hM, T⟩ := st_name T0; clear T0; clear F S; (try rw [HL.out] at hM); clear HL; (try simp only [List.eraseIdx_cons_zero, List.eraseIdx_cons_succ] at hM); have HL := Lib.hid hM; clear hM; have S := T; clear T; have F := factsAll HL S; (try simp only [factsOf, cellsFrom, and_true, true_and, Nat.reduceAdd] at F)); have hy := hy0 (by omega); clear hy0; obtain ⟨j, hj, hj1, hj2⟩ : ∃ j : Nat, 1 + y = (j : Int) ∧ 1 ≤ j ∧ j ≤ 3 := ⟨(1 + y).toNat, by omega, by omega, by omega⟩; clear hy) | ((go_at_call 34; refine (C_l20SharedNet _ _ _ _ _ _ _ w0 _ ⟨⟨by omega, by omega⟩, by omega, by omega⟩ (by omega) (S.front (by first | exact atOf HL (p := 0) rfl | exact atOf HL (p := 1) rfl | exact atOf HL (p := 2) rfl | exact atOf HL (p := 3) rfl | exact atOf HL (p := 4) rfl | exact atOf HL (p := 5) rfl | exact atOf HL (p := 6) rfl | exact atOf HL (p := 7) rfl)) HB.out ⟨by omega, by omega⟩).mono ?_; rintro e w ⟨u2, qs, k2, rfl, hk3, hk4, hql, hfw, T0⟩; obtain ⟨L, hM, T⟩ := st_name T0; clear T0; clear F S; (try rw [HL.out] at hM); clear HL; (try simp only [List.eraseIdx_cons_zero, List.eraseIdx_cons_succ] at hM); have HL := Lib.hid hM; clear hM; have S := T; clear T; have F := factsAll HL S; (try simp only [factsOf, cellsFrom, and_true, true_and, Nat.reduceAdd] at F)); have HFW := Lib.hid hfw; clear hfw))
  go_ret
  rw [HL.out] at S
  refine ⟨qs.map slyO, _, rfl, ⟨by rw [List.length_map]; omega, fun l hl => ?_⟩, ?_, S.below⟩
  · obtain ⟨q, hq, rfl⟩ := List.mem_map.1 hl
    exact HFW.out q hq
  · refine sees_sls S (fun e he => ?_)
    rcases List.mem_cons.1 (show e ∈ Ent.row 36 2 u2 qs.length (cellsSL qs) :: rowsSL qs from he) with rfl | h1
    · exact List.mem_cons_of_mem _ List.mem_cons_self
    · exact List.mem_cons_of_mem _ (List.mem_cons_of_mem _ (List.mem_append_left _ h1))

/-! ### Networks that are shared and joined again: plain. -/
open Go Go.RowKit
theorem add_sub_ring {x r : Int} (hx : rv x = true) (hr : rv r = true) : addR r (subR x r) = x := by
  have h1 : subR x r = ro (x - r) := by simp [subR, hx, hr]
  have h2 : rv (ro (x - r)) = true := rv_ro _
  rw [h1, addR, hr, h2]
  simp only [rv, Bool.and_eq_true, decide_eq_true_eq] at hx
  simp only [ro, Bool.and_self, if_true]
  omega
theorem sub_rv {x r : Int} (hx : rv x = true) (hr : rv r = true) : rv (subR x r) = true := by
  have h1 : subR x r = ro (x - r) := by simp [subR, hx, hr]
  rw [h1]
  exact rv_ro _
theorem ring_at {xs : List Int} (h : xs.all rv = true) {k : Nat} (hk : k < xs.length) : rv (xs.getD k 0) = true := by
  rw [List.getD_eq_getElem?_getD, List.getElem?_eq_getElem hk]
  exact List.all_eq_true.1 h _ (List.getElem_mem hk)
theorem tab_self (xs : List Int) : tab xs.length (fun k => xs.getD k 0) = xs := by
  apply List.ext_getElem?
  intro i
  rcases Nat.lt_or_ge i xs.length with h | h
  · have h1 := tab_getD xs.length (fun k => xs.getD k 0) i h
    rw [List.getD_eq_getElem?_getD, List.getD_eq_getElem?_getD] at h1
    rw [List.getElem?_eq_getElem (by rw [tab_length]; exact h), List.getElem?_eq_getElem h] at h1 ⊢
    simpa using h1
  · rw [List.getElem?_eq_none (by rw [tab_length]; exact h), List.getElem?_eq_none h]
theorem join_split {m : Mx} (h : m.ok = true) (s : Int) : joinMx (splitMx m s) = m := by
  obtain ⟨R, C, e, r1, r2, c1, c2, hRC, hN, hall⟩ := mx_nat h
  obtain ⟨r, c, xs⟩ := m
  dsimp only at e hRC hN hall
  obtain ⟨rfl, rfl⟩ : r = R ∧ c = C := by injection e with e1 e2 _; exact ⟨e1, e2⟩
  have hra := rndTo_all s xs.length
  have hrl := rndTo_length s xs.length
  have hsub : (tab xs.length (subV xs (rndTo s xs.length))).all rv = true := tab_all fun q hq => sub_rv (ring_at hall hq) (ring_at hra (by rw [hrl]; exact hq))
  have hl : likeMx ⟨R, C, rndTo s xs.length⟩ ⟨R, C, tab xs.length (subV xs (rndTo s xs.length))⟩ = true := by
    simp only [likeMx, Bool.and_eq_true, decide_eq_true_eq]
    exact ⟨⟨⟨Mx.ok_of r1 r2 c1 c2 (by rw [hrl, hRC]) hra, Mx.ok_of r1 r2 c1 c2 (by rw [tab_length, hRC]) hsub⟩, trivial⟩, trivial⟩
  show sumMx ⟨R, C, rndTo s xs.length⟩ ⟨R, C, tab xs.length (subV xs (rndTo s xs.length))⟩ = _
  rw [sumMx_ok hl]
  dsimp only
  rw [hrl]
  have e2 : tab xs.length (sumsV (rndTo s xs.length) (tab xs.length (subV xs (rndTo s xs.length)))) = xs := by
    rw [tab_congr xs.length _ (fun k => xs.getD k 0) (fun i hi => ?_), tab_self]
    show addR ((rndTo s xs.length).getD i 0) ((tab xs.length (subV xs (rndTo s xs.length))).getD i 0) = _
    rw [tab_getD _ _ _ hi]
    exact add_sub_ring (ring_at hall hi) (ring_at hra (by rw [hrl]; exact hi))
  rw [e2]
theorem join_splitMs : ∀ (ms : List Mx) (s : Int), (∀ m ∈ ms, m.ok = true) → (splitMs ms s).1.map joinMx = ms
  | [], _, _ => rfl
  | m :: ms, s, h => by
    show joinMx (splitMx m s) :: (splitMs ms (seedAt s m.xs.length)).1.map joinMx = _
    rw [join_split (h m List.mem_cons_self), join_splitMs ms _ (fun x hx => h x (List.mem_cons_of_mem _ hx))]
theorem join_splitLs : ∀ (ls : List Ly) (s : Int), (∀ l ∈ ls, l.ok = true) → (splitLs ls s).1.map joinLy = ls
  | [], _, _ => rfl
  | l :: ls, s, h => by
    show joinLy (splitLy l s) :: (splitLs ls (splitMs l.ws s).2).1.map joinLy = _
    have e : joinLy (splitLy l s) = l := by
      show Ly.mk l.kind ((splitMs l.ws s).1.map joinMx) = l
      rw [join_splitMs _ _ (Ly.ok_ms (h l List.mem_cons_self)).2]
    rw [e, join_splitLs ls _ (fun x hx => h x (List.mem_cons_of_mem _ hx))]
theorem seed_splitMs : ∀ (ms : List Mx) (s : Int), seedOk s = true → seedOk (splitMs ms s).2 = true
  | [], _, h => h
  | m :: ms, s, h => seed_splitMs ms _ (seedOk_at h _)
theorem seed_splitLs : ∀ (ls : List Ly) (s : Int), seedOk s = true → seedOk (splitLs ls s).2 = true
  | [], _, h => h
  | l :: ls, s, h => seed_splitLs ls _ (seed_splitMs l.ws s h)
theorem len_splitLs : ∀ (ls : List Ly) (s : Int), (splitLs ls s).1.length = ls.length
  | [], _ => rfl
  | l :: ls, s => congrArg (· + 1) (len_splitLs ls _)
/-- JoinNet leads back. -/
theorem split_case {ls : List Ly} {s z : Int} {js : List SLy} (h : splitRes ls s = (js, z)) : (z = 0 ∧ js = []) ∨ (1 ≤ z ∧ joinRes js = (true, ls)) := by
  unfold splitRes at h
  split at h
  · rename_i hc
    rw [Bool.and_eq_true, Bool.and_eq_true, decide_eq_true_eq] at hc
    have hok : ∀ l ∈ ls, l.ok = true := fun l hl => List.all_eq_true.1 hc.1.2 l hl
    have h1 := join_splitLs ls s hok
    have h2 := seed_splitLs ls s hc.2
    have h3 := len_splitLs ls s
    rw [h] at h1 h2 h3
    dsimp only at h1 h2 h3
    refine .inr ⟨(seedOk_bd h2).1, ?_⟩
    unfold joinRes
    rw [h1, hc.1.2, h3, decide_eq_true hc.1.1]
    rfl
  · injection h with e1 e2
    exact .inl ⟨e2.symm, e1.symm⟩

/-! ### An argument that is bytes. -/
open Go Go.RowKit Go.ChangeShapes Go.WideShapes Go.ChangeAt
def isByteT (P : Program) (t : Nat) : Bool := match P.underlying t with | some (.int .u8) => decide (P.cellsOf t = 1) | _ => false
section
variable {H : Type} {enc : TypeId × Value → H} {P : Program} {w : World} {spare : Nat → Bool} {held : Bool}
theorem open_bytes {r : Reach} {b0 t e : Nat} {v : Value} {d : DataW H} {p : List MemPlace} (hk : (isSliceT P t e && isByteT P e) = true) (hv : Value.okWide P w r b0 t v) (h : DataW.Trod enc P w 0 spare held t v d p) : Bytes w v := by
  simp only [Bool.and_eq_true] at hk
  obtain ⟨hs, hf⟩ := hk
  unfold isByteT at hf
  split at hf
  rotate_left
  · cases hf
  rename_i hu8
  have hc : P.cellsOf e = 1 := by simpa using hf
  unfold isSliceT at hs
  split at hs
  rotate_left
  · cases hs
  rename_i e' hu
  have he : e' = e := by simpa using hs
  subst he
  obtain ⟨A, len, cap, rfl⟩ := okWide_slice hu hv
  obtain ⟨fuel, hf'⟩ := h
  rcases Go.Deep.open_slice hu hf' with ⟨h0, _⟩ | ⟨a, len', cap', m, k, D, Pl, h0, _, hl, hm, hmm, _, hi⟩
  · have h0' : Value.slice A len cap = .slice none 0 0 := by simpa [Value.cells] using h0
    injection h0' with h1 h2 h3
    subst h1; subst h2; subst h3
    exact ⟨none, 0, 0, rfl, Nat.le_refl _, by simp [maxLen], fun h => absurd h (by omega)⟩
  · have h0' : Value.slice A len cap = .slice (some a) len' cap' := by simpa [Value.cells] using h0
    injection h0' with h1 h2 h3
    subst h1; subst h2; subst h3
    have hml : len ≤ m := by rw [hmm]; split <;> omega
    have key : ∀ q, q < len → ∃ z : Int, 0 ≤ z ∧ z < 256 ∧ w.cell? (a.add q) = some (.int .u8 z) := by
      intro q hq
      obtain ⟨cs', hcs, ht⟩ := hi q (by omega)
      obtain ⟨z, rfl, _, hw⟩ := DataW.trod_int hu8 ht
      obtain ⟨_, _, hcell⟩ := World.cells?_some hcs
      have h1 := hcell 0 (by rw [hc]; omega)
      rw [addr_add_add, hc, Nat.mul_one, Nat.add_zero] at h1
      have hz : 0 ≤ z ∧ z ≤ 255 := by simpa [Lit.wf, IntKind.min, IntKind.max, IntKind.signed, IntKind.bits] using hw
      exact ⟨z, hz.1, by omega, h1⟩
    refine ⟨some a, len, cap, rfl, hl, hm, fun hlen => ?_⟩
    obtain ⟨z, _, _, h00⟩ := key 0 hlen
    have e0 : a.add 0 = a := by unfold Addr.add; simp
    rw [e0] at h00
    have hsp := cell_spot h00
    obtain ⟨b, off, spot⟩ := a
    simp only at hsp
    subst hsp
    refine ⟨b, off, rfl, World.block_lt_of_cell? w _ h00, fun j hj => ?_⟩
    obtain ⟨z, z0, z1, hz⟩ := key j hj
    have e : (⟨b, off, none⟩ : Addr).add j = ⟨b, off + j, none⟩ := by unfold Addr.add; split <;> simp_all
    exact ⟨z, z0, z1, by rwa [e] at hz⟩
end

/-! ### Proved here: joined networks are networks: as many layers, all of them valid. -/
open Go Go.RowKit Go.ChangeShapes Go.WideShapes Go.ChangeAt
theorem join_case {ls : List SLy} {b : Bool} {js : List Ly} (h : joinRes ls = (b, js)) : (b = false ∧ js = []) ∨ (b = true ∧ js = ls.map joinLy ∧ ls.length ≤ 4 ∧ ∀ l ∈ js, l.ok = true) := by
  unfold joinRes at h
  split at h
  · rename_i hc
    rw [Bool.and_eq_true, decide_eq_true_eq] at hc
    injection h with e1 e2
    subst e1 e2
    exact .inr ⟨rfl, rfl, hc.1, fun l hl => List.all_eq_true.1 hc.2 l hl⟩
  · injection h with e1 e2
    exact .inl ⟨e1.symm, e2.symm⟩
theorem few_small {ls : List SLy} (h : ∀ l ∈ ls, SLyFew l) : ∀ l ∈ ls, SLySmall 1048576 l := fun l hl => by
  obtain ⟨h1, h2⟩ := h l hl
  exact ⟨by omega, fun m hm => by obtain ⟨h3, h4⟩ := h2 m hm; exact ⟨by omega, by omega⟩⟩
set_option maxHeartbeats 8000000 in
set_option maxRecDepth 20000 in
theorem L_FnJoinNet (v : Value) (w0 : World) (h : Bytes w0 v) : Calls Try.prog 3 #[v] w0 fun e w' => e = .returned (.bool true) ∧ Below w0.heap.size w0 w' := by
  have HB0 := Lib.hid h
  obtain ⟨A, n, cap, rfl, hcap, hmax, _⟩ := h
  unfold maxLen at hmax
  by_cases hbig : n > 1048576
  · obtain ⟨L, HL, S⟩ := st_start w0; have F : True := trivial
    go_enter Try.func3, Try.ntmps3
    go_wp2_with (first | (refine wpList_box rfl S _ _ rfl ?_; intro g w L hM T; clear F S; (try rw [HL.out] at hM); clear HL; (try simp [Act.put, Act.eval, Value.cells, splice] at hM); have HL := Lib.hid hM; clear hM; have S := T; clear T; have F := factsAll HL S; (try simp only [factsOf, cellsFrom, and_true, true_and, Nat.reduceAdd] at F))  | (refine wpList_store_box rfl S _ _ _ rfl 0 _ _ _ _ (atOf HL rfl) rfl _ rfl (by kernel_rfl) rfl rfl ?_; intro w L hM T; clear F S; (try rw [HL.out] at hM); clear HL; (try simp [Act.put, Act.eval, Value.cells, splice] at hM); have HL := Lib.hid hM; clear hM; have S := T; clear T; have F := factsAll HL S; (try simp only [factsOf, cellsFrom, and_true, true_and, Nat.reduceAdd] at F)) | (refine wpList_store_box rfl S _ _ _ rfl 1 _ _ _ _ (atOf HL rfl) rfl _ rfl (by kernel_rfl) rfl rfl ?_; intro w L hM T; clear F S; (try rw [HL.out] at hM); clear HL; (try simp [Act.put, Act.eval, Value.cells, splice] at hM); have HL := Lib.hid hM; clear hM; have S := T; clear T; have F := factsAll HL S; (try simp only [factsOf, cellsFrom, and_true, true_and, Nat.reduceAdd] at F)) | (refine wpList_store_box rfl S _ _ _ rfl 2 _ _ _ _ (atOf HL rfl) rfl _ rfl (by kernel_rfl) rfl rfl ?_; intro w L hM T; clear F S; (try rw [HL.out] at hM); clear HL; (try simp [Act.put, Act.eval, Value.cells, splice] at hM); have HL := Lib.hid hM; clear hM; have S := T; clear T; have F := factsAll HL S; (try simp only [factsOf, cellsFrom, and_true, true_and, Nat.reduceAdd] at F)) | (refine wpList_store_box rfl S _ _ _ rfl 3 _ _ _ _ (atOf HL rfl) rfl _ rfl (by kernel_rfl) rfl rfl ?_; intro w L hM T; clear F S; (try rw [HL.out] at hM); clear HL; (try simp [Act.put, Act.eval, Value.cells, splice] at hM); have HL := Lib.hid hM; clear hM; have S := T; clear T; have F := factsAll HL S; (try simp only [factsOf, cellsFrom, and_true, true_and, Nat.reduceAdd] at F))  )
    go_ret
    exact ⟨rfl, S.below⟩
  obtain ⟨L, HL, S⟩ := st_start w0; have F : True := trivial
  go_enter Try.func3, Try.ntmps3
  go_upto_region 4 with (first | (go_at_call 8; refine (C_DrawJoinNet _ _ (HB0.out.below S.below)).mono ?_; rintro e w0 ⟨ls, v, rfl, hf, hs, hb⟩; have HBB := Lib.hid (S.below.trans (hb.mono S.below.size)); clear S HL F hb; have HS := Lib.hid hs; have HF := Lib.hid hf; clear hs hf; obtain ⟨L, HL, S⟩ := st_start w0; have F : True := trivial))
  obtain ⟨b, js, hj⟩ : ∃ b js, joinRes ls = (b, js) := ⟨_, _, rfl⟩
  have HJ := Lib.hid hj
  have hcase := join_case hj
  clear hj
  have hn1 : ls.length ≤ 1048576 := by have := HF.out.1; omega
  have HLE : Hid (∀ l ∈ ls, l.ws.length ≤ 1048576) := Lib.hid fun l hl => by have := (HF.out.2 l hl).1; omega
  have HSM := Lib.hid (few_small HF.out.2)
  have hs := HS.out
  obtain ⟨As, cs, rfl, hcs, hms, _⟩ := hs
  go_upto_region 5 with (first | (go_at_call 9; refine (RB.C_impl_JoinNet _ ls b js _ (HS.out.at_ S) HLE.out HJ.out).mono ?_; rintro e w0 ⟨ug, qg, rfl, hq, T0⟩; have HG := Lib.hid (hq ▸ sees_ls T0 (fun e he => he) : SeesLs w0 ug js); have hb := S.below.trans (T0.below.mono S.below.size); replace HS := Lib.hid (HS.out.below hb); replace HBB := Lib.hid (HBB.out.trans (hb.mono HBB.out.size)); clear S HL F T0 hq hb; obtain ⟨L, HL, S⟩ := st_start w0; have F : True := trivial))
  go_upto_region 6 with (first | (go_at_call 10; refine (C_spec_JoinNet _ ls b js _ (HS.out.at_ S) hn1 HSM.out HJ.out).mono ?_; rintro e w0 ⟨uW, qW, rfl, hq, T0⟩; have HW := Lib.hid (hq ▸ sees_ls T0 (fun e he => he) : SeesLs w0 uW js); have hb := S.below.trans (T0.below.mono S.below.size); replace HS := Lib.hid (HS.out.below hb); replace HG := Lib.hid (HG.out.below hb); replace HBB := Lib.hid (HBB.out.trans (hb.mono HBB.out.size)); clear S HL F T0 hq hb; obtain ⟨L, HL, S⟩ := st_start w0; have F : True := trivial))
  have hg := HG.out
  obtain ⟨Ag, cg, rfl, hcg, hmg, hA⟩ := hg
  rcases hcase with ⟨rfl, rfl⟩ | ⟨rfl, hjs, h4, hok⟩
  · go_wp2_with (first | (go_at_call 11; refine (C_sameLayers _ _ [] _ (HG.out.at_ S) (HW.out.at_ S)).mono ?_; rintro e w ⟨rfl, hb⟩; replace S := S.grow hb; clear hb) | (go_at_call 12; refine (C_alive _).mono ?_; rintro e w' ⟨rfl, rfl⟩))
    go_ret
    exact ⟨rfl, HBB.out.trans (S.below.mono HBB.out.size)⟩
  · obtain ⟨m, hm⟩ : ∃ m, ls.length = m := ⟨_, rfl⟩
    have hmj : js.length = m := by rw [hjs, List.length_map, hm]
    rw [hmj] at hcg hA HG
    (try rw [hmj])
    rw [hm] at hcs h4 HS
    (try rw [hm])
    have HJS := Lib.hid hjs
    have HOK := Lib.hid hok
    have HM := Lib.hid hm
    have HMJ := Lib.hid hmj
    have HA := Lib.hid hA
    unfold maxLen at hms hmg
    clear hjs hok hm hmj hA
    go_upto_region 10 with (first | (go_at_call 11; refine (C_sameLayers _ _ js _ (HG.out.at_ S) (HW.out.at_ S)).mono ?_; rintro e w ⟨rfl, hb⟩; replace S := S.grow hb; clear hb))
    go_wp2
    go_loopw [8] (fun i wr => ∃ (k : Nat), k ≤ m ∧ i = .int .i64 k ∧ St w0 wr L) (fun i _ => m - (intOf i).toNat)
    case atStart => exact ⟨0, Nat.zero_le _, rfl, S⟩
    case round =>
      clear S
      obtain ⟨k, hk, rfl, S⟩ := hrel
      by_cases hlt : k < m
      · obtain ⟨b0, off, rfl, hb, hc⟩ := HA.out (by omega)
        obtain ⟨_, _, es, _, _, hA2⟩ := HS.out
        rw [HM.out] at hA2
        obtain ⟨b1, off1, e1, hb1, hc1⟩ := hA2 (by omega)
        injection es with es1 es2 es3
        clear es2 es3
        subst es1
        subst e1
        obtain ⟨l, hl⟩ := some_at HM.out hlt
        have hjl : js[k]? = some (joinLy l) := by rw [HJS.out, List.getElem?_map, hl]; rfl
        have hlok := HOK.out _ (List.mem_of_getElem? hjl)
        obtain ⟨x, c1, c2, hu⟩ := hc k _ hjl
        obtain ⟨y, d1, d2, _⟩ := hc1 k _ hl
        have HU := Lib.hid hu
        obtain ⟨Au, cu, rfl, hcu, hmu, _⟩ := hu
        obtain ⟨kind, ms⟩ := l
        have c1' : w0.cell? ⟨b0, off + k * 2, none⟩ = some (.int .i64 kind) := c1
        have d1' : w0.cell? ⟨b1, off1 + k * 2, none⟩ = some (.int .i64 kind) := d1
        have f1 := fun w' (S' : St w0 w' L) => (S'.below.cell (p := ⟨b0, off + k * 2, none⟩) hb).trans c1'
        have f2 := fun w' (S' : St w0 w' L) => (S'.below.cell (p := ⟨b0, off + k * 2 + 1, none⟩) hb).trans c2
        have g1 := fun w' (S' : St w0 w' L) => (S'.below.cell (p := ⟨b1, off1 + k * 2, none⟩) hb1).trans d1'
        have CL := fun w (S' : St w0 w L) => C_impl_LayerValid (.slice Au (joinLy ⟨kind, ms⟩).ws.length cu) (joinLy ⟨kind, ms⟩) true w0 w S'.below HU.out hlok
        have hkm : (k : Int) < (m : Int) := by omega
        clear hc hc1 hA2 c1 c2 d1 d2 c1' d1' hl hjl hlok
        go_upto_region 13 with fail
        have HL0 := HL; have F0 := F; refine wp_region_tree (S := fun w' => St w0 w' L) (.calm 0 (.calm 1 (.calm 2 (.calm 3 (.act 4 (.calm 5 (.calm 6 (.calm 7 (.calm 8 (.calm 9 (.calm 10 (.calm 11 (.calm 12 (.calm 13 (.calm 14 (.calm 15 (.calm 16 (.calm 17 (.calm 18 .fin)))))))))))))) .stop))))) (by kernel_rfl) (by kernel_rfl) (by kernel_rfl) (by intro c a d v w h; cases d <;> exact h) ?_; replace S := S.drew
        repeat (first | (first | (refine tree_calm (v := ?_) ?_ rfl (by decide +kernel) rfl ?_ ?_; rotate_left; (focus (first | exact S | (refine S.sub (subL HL0 HL ?_); (repeat (first | exact List.Sublist.refl _ | apply List.Sublist.cons)); done))); (focus (intro w' hS'; (try dsimp only at hS'); go_simp; try rfl)); (try simp only [Act.put, List.setIfInBounds_toArray, List.set_cons_zero, List.set_cons_succ])) | (refine tree_any (v := ?_) ?_ rfl rfl ?_ ?_; rotate_left; (focus (first | exact S | (refine S.sub (subL HL0 HL ?_); (repeat (first | exact List.Sublist.refl _ | apply List.Sublist.cons)); done))); (focus (intro w'; go_simp; try rfl)); (try simp only [Act.put, List.setIfInBounds_toArray, List.set_cons_zero, List.set_cons_succ]))) | (refine tree_skip ?_ rfl rfl ?_; (focus (first | exact S | (refine S.sub (subL HL0 HL ?_); (repeat (first | exact List.Sublist.refl _ | apply List.Sublist.cons)); done))); (try simp only [Act.put, List.setIfInBounds_toArray, List.set_cons_zero, List.set_cons_succ])) | (refine tree_actSkip rfl rfl ?_ ?_ tree_stop; (focus (first | exact S | (refine S.sub (subL HL0 HL ?_); (repeat (first | exact List.Sublist.refl _ | apply List.Sublist.cons)); done))); (try simp only [Act.put, List.setIfInBounds_toArray, List.set_cons_zero, List.set_cons_succ])) | (refine tree_act rfl rfl ?_ tree_stop; intro K hK; go_wp2_with (first | (go_at_call 13; refine (CL _ S).mono ?_; rintro e w ⟨rfl, hb⟩; replace S := S.grow hb; clear hb)); (refine hK.out _ _ ?_ ?_; (focus (first | exact fun _ => S | (intro _; refine S.sub (subL HL0 HL ?_); (repeat (first | exact List.Sublist.refl _ | apply List.Sublist.cons)); done) | (refine sink_no ?_; kernel_rfl))); clear hK K; (try simp only [Act.put, List.setIfInBounds_toArray, List.set_cons_zero, List.set_cons_succ]))))
        refine tree_fin ?_
        clear HL0 F0 f1 f2 g1
        go_wp2
        go_roundw
        case rel => exact ⟨k + 1, by omega, by go_num, S⟩
        case measure => simp [intOf]; omega
      · obtain rfl : k = m := by omega
        go_wp2
        go_ret
        exact ⟨rfl, HBB.out.trans (S.below.mono HBB.out.size)⟩

set_option maxRecDepth 100000 in
theorem FnJoinNet_lifted (os : Os) (started : os.Started) (H : Type) (enc : TypeId × Value → H) :
    ReturnsInHanded {} Try.checked os 3 .any (Rows.fnJoinNetSpec.pre6 enc Try.prog Try.f3 Rows.fnJoinNetRow.domain false) (Rows.fnJoinNetSpec.post enc Try.prog Try.f3 false true false false) := by
  refine returnsInHanded_of_change (C := Try.checked) Try.ownKnob_ started (by kernel_rfl) Try.func3
    (ChangeSpec.witness6 (enc := enc) (C := Try.checked) false ⟨#[], #[.slice none 0 0], []⟩ 8 (by kernel_rfl) (by kernel_rfl) (by kernel_rfl) (by kernel_rfl)) ?_
  intro W base args ds gs before hval0 hW _ _
  have hval : ∀ (j : Nat) t v, Try.f3.params[j]? = some t → args[j]? = some v → Value.okWide Try.prog W .any base t v := hval0
  have hW' := hW
  obtain ⟨p, q, hA0, hV, rfl, _, _⟩ := hW
  have hA : DataW.TrodAll enc Try.prog W 0 (fun _ => true) true Try.f3.params.toList args.toList ds p := hA0
  rw [Try.params3] at hA hval
  obtain ⟨v0, vs0, d0, ds0, p0, q0, hargs, rfl, rfl, h0, r0⟩ := trodAll_cons hA
  obtain ⟨rfl, rfl, rfl⟩ := trodAll_nil r0
  obtain rfl : args = #[v0] := by cases args; simp_all
  obtain ⟨rfl, rfl⟩ := trodVars_none hV
  clear hA0 hval0
  have s0 := open_bytes (e := 5) (by kernel_rfl) (hval 0 _ v0 rfl rfl) h0
  refine (L_FnJoinNet _ W s0).mono fun e W' ⟨he, hb⟩ => ⟨_, he, ?_⟩
  exact law_post 4 Try.underlying4 Try.laidOut_ (by kernel_rfl) rfl rfl hW' ⟨rfl, rfl, rfl⟩ hb

theorem FnJoinNet_holds : Rows.FnJoinNetSaid :=
  OpenClaim.holds_of_wide 3 Try.f3 rfl rfl rfl rfl rfl rfl rfl ⟨rfl, rfl, rfl, rfl, rfl⟩ rfl rfl rfl rfl rfl (by kernel_rfl) Try.func3 (closed_of (by kernel_rfl))
    (of_decide_eq_true (by kernel_rfl)) (by unfold Func.isWrapper; first | (rw [if_pos (by decide +kernel)]; kernel_rfl) | (rw [if_neg (by decide +kernel)]; exact ⟨rfl, rfl⟩))
    (fun os started H enc _ => FnJoinNet_lifted os started H enc)

end Go.Proofs.Ytdfpceobfficfaa
