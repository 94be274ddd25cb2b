/-
  Contract: SplitNet, the reference's.
-/
import Derived.Test.YtdfpceobfficfaaSpI
import Derived.Test.YtdfpceobfficfaaLyL
namespace Go.Proofs.Ytdfpceobfficfaa
set_option linter.unusedSimpArgs false
set_option linter.unusedVariables false
set_option linter.unusedSectionVars false
open Go Go.RowKit
set_option maxHeartbeats 8000000
set_option maxRecDepth 20000
theorem St.rebaseS {w0 w1 w : World} {L : List Ent} (hb : Below w0.heap.size w0 w1) (T : St w1 w L) : St w0 w L :=
  ⟨hb.trans (T.below.mono hb.size), fun e he => Ent.holds_base (T.own e he) hb.size, T.apart⟩
theorem sp_perm3 (v u m b l : Ent) (A B : List Ent) : (v :: u :: m :: b :: l :: (A ++ B)).Perm (m :: b :: l :: ((A ++ [u, v]) ++ B)) := by
  rw [List.append_assoc]
  refine (List.Perm.swap _ _ _).trans ?_
  exact (List.perm_append_comm_assoc [u, v] [m, b, l] (A ++ B)).trans ((((List.perm_append_comm_assoc [u, v] A B).cons l).cons b).cons m)
theorem all_bad {ls : List Ly} {k : Nat} {l : Ly} (h : ls[k]? = some l) (hl : l.ok = false) : (decide (ls.length ≤ 4) && ls.all Ly.ok) = false := by
  have : ls.all Ly.ok = false := by
    cases hc : ls.all Ly.ok with
    | false => rfl
    | true => rw [all_at hc h] at hl; cases hl
  rw [this, Bool.and_false]
theorem all_good {ls : List Ly} (h : ∀ q l, q < ls.length → ls[q]? = some l → l.ok = true) : ls.all Ly.ok = true := by
  rw [List.all_eq_true]
  intro x hx
  obtain ⟨q, hq⟩ := List.mem_iff_getElem?.1 hx
  exact h q x (List.getElem?_eq_some_iff.1 hq).1 hq
theorem C_spec_SplitNet (v : Value) (ls : List Ly) (s z : Int) (js : List SLy) (wz : World) (h : SeesLs wz v ls) (hn0 : ls.length ≤ 1048576) (hx : ∀ l ∈ ls, LySmall 1048576 l) (hj : splitRes ls s = (js, z)) :
    Calls Try.prog 16 #[v, .int .i64 s] wz fun e w => ∃ u qs, e = .returned (.tuple #[u, .int .i64 z]) ∧ qs.map slyO = js ∧ St wz w (entsSL u qs) := by
  have H := Lib.hid h
  have HX := Lib.hid hx
  have HJ := Lib.hid hj
  obtain ⟨A, cap, rfl, hcap, hmax, _⟩ := h
  clear hx hj
  obtain ⟨L, HL, S⟩ := st_start wz; have F : True := trivial
  go_enter Try.func16, Try.ntmps16
  go_upto_region 2 with (first | (go_at_call 47; refine (C_l1OwnLayerList _ ls _ (H.out.at_ S) hn0 HX.out).mono ?_; rintro e w0 ⟨u0, qs0, rfl, hqs, T0⟩; have HS := Lib.hid (hqs ▸ sees_ls T0 (fun e he => he) : SeesLs w0 u0 ls); have HBB := Lib.hid (S.below.trans (T0.below.mono S.below.size)); clear S HL F T0 hqs; obtain ⟨L, HL, S⟩ := st_start w0; have F : True := trivial))
  obtain ⟨A0, c0, rfl, hc0, hm0, hA⟩ := HS.out
  clear HS H hcap hmax
  obtain ⟨n, hn⟩ : ∃ n, ls.length = n := ⟨_, rfl⟩
  rw [hn] at hc0 hA hn0
  (try rw [hn])
  have HN := Lib.hid hn
  have HA := Lib.hid hA
  clear hA hn
  unfold maxLen at hm0
  go_upto_region 3 with (refine wpList_empty rfl S _ rfl 36 Try.underlying23 infoSLy ?_; intro g w L hM T; clear F S; (try rw [HL.out] at hM); clear HL; (try simp [Act.put, Act.eval, Value.cells, splice] at hM); have HL := Lib.hid hM; clear hM; have S := T; clear T; have F := factsAll HL S; (try simp only [factsOf, cellsFrom, and_true, true_and, Nat.reduceAdd] at F))
  go_wp2
  go_loopw [7] (fun i wr => ∃ (k : Nat), k ≤ n ∧ i = .int .i64 k ∧ Hid (∀ q l, q < k → ls[q]? = some l → l.ok = true) ∧ St w0 wr L) (fun i _ => n - (intOf i).toNat)
  case atStart => exact ⟨0, Nat.zero_le _, rfl, Lib.hid (fun q l h => absurd h (by omega)), S⟩
  case round =>
    clear S
    obtain ⟨k, hk, rfl, HOK, S⟩ := hrel
    by_cases hlt : k < n
    · obtain ⟨b0, off, rfl, hb, hc⟩ := HA.out (by omega)
      obtain ⟨l, hm⟩ := some_at HN.out hlt
      have HG := Lib.hid hm
      obtain ⟨kind, ms⟩ := l
      obtain ⟨x, c1, c2, hu⟩ := hc k _ hm
      dsimp only at c1 c2 hu
      have HU := Lib.hid hu
      obtain ⟨A', cap', rfl, hcap', hmax', _⟩ := hu
      have f1 := fun w' (S' : St w0 w' L) => (S'.below.cell (p := ⟨b0, off + k * 2, none⟩) hb).trans c1
      have f2 := fun w' (S' : St w0 w' L) => (S'.below.cell (p := ⟨b0, off + k * 2 + 1, none⟩) hb).trans c2
      clear hc c1 c2 hm
      cases hok : (Ly.mk kind ms).ok with
      | false =>
        have CL := fun w h => C_spec_LayerValid (.slice A' ms.length cap') kind ms false w h hok
        obtain ⟨rfl, rfl⟩ : js = [] ∧ z = 0 := by
          have := HJ.out
          rw [splitRes_bad (all_bad HG.out hok)] at this
          injection this with e1 e2
          exact ⟨e1.symm, e2.symm⟩
        go_wp2_with (first | (go_at_call 39; refine (CL _ (HU.out.at_ S)).mono ?_; rintro e w ⟨rfl, hb⟩; replace S := S.grow hb; clear hb) | (refine wpList_empty rfl S _ rfl 36 Try.underlying23 infoSLy ?_; intro g w L hM T; clear F S; (try rw [HL.out] at hM); clear HL; (try simp [Act.put, Act.eval, Value.cells, splice] at hM); have HL := Lib.hid hM; clear hM; have S := T; clear T; have F := factsAll HL S; (try simp only [factsOf, cellsFrom, and_true, true_and, Nat.reduceAdd] at F)))
        refine ret2 rfl (show _ = _ from rfl) (show _ = _ from rfl) rfl ?_
        rw [HL.out] at S
        exact ⟨_, [], rfl, rfl, St.rebaseS HBB.out (S.sub (.cons_cons _ (List.nil_sublist _)))⟩
      | true =>
        have CL := fun w h => C_spec_LayerValid (.slice A' ms.length cap') kind ms true w h hok
        have HOKN := Lib.hid hok
        clear hok
        go_wp2_with (first | (go_at_call 39; refine (CL _ (HU.out.at_ S)).mono ?_; rintro e w ⟨rfl, hb⟩; replace S := S.grow hb; clear hb))
        go_roundw
        case rel =>
          refine ⟨k + 1, by omega, by go_num, Lib.hid ?_, S⟩
          intro q l hq hl
          by_cases h : q = k
          · subst h
            rw [HG.out] at hl
            injection hl with hl
            subst hl
            exact HOKN.out
          · exact HOK.out q l (by omega) hl
        case measure => simp [intOf]; omega
    · obtain rfl : k = n := by omega
      have HALL := Lib.hid (all_good (ls := ls) (by rw [HN.out]; exact HOK.out))
      clear HOK
      by_cases h4 : k ≤ 4
      · have hdec : (decide (ls.length ≤ 4) && ls.all Ly.ok) = true := by rw [HALL.out, HN.out, decide_eq_true h4]; rfl
        cases hs : seedOk s with
        | false =>
          obtain ⟨rfl, rfl⟩ : js = [] ∧ z = 0 := by
            have := HJ.out
            rw [splitRes_seed hs] at this
            injection this with e1 e2
            exact ⟨e1.symm, e2.symm⟩
          have HSd := Lib.hid (show (decide (1 ≤ s) && decide (s ≤ 2147483646)) = false from hs)
          clear hs hdec
          go_wp2_with (first | (go_at_call 48; refine (C_in' _ _ _ _ _ (by exact HSd.out)).mono ?_; rintro e w' ⟨rfl, rfl⟩) | (refine wpList_empty rfl S _ rfl 36 Try.underlying23 infoSLy ?_; intro g w L hM T; clear F S; (try rw [HL.out] at hM); clear HL; (try simp [Act.put, Act.eval, Value.cells, splice] at hM); have HL := Lib.hid hM; clear hM; have S := T; clear T; have F := factsAll HL S; (try simp only [factsOf, cellsFrom, and_true, true_and, Nat.reduceAdd] at F)))
          refine ret2 rfl (show _ = _ from rfl) (show _ = _ from rfl) rfl ?_
          rw [HL.out] at S
          exact ⟨_, [], rfl, rfl, St.rebaseS HBB.out (S.sub (.cons_cons _ (List.nil_sublist _)))⟩
        | true =>
          have HJ0 := Lib.hid ((splitRes_ok hdec hs).symm.trans HJ.out)
          have HS := Lib.hid hs
          have HSd := Lib.hid (show (decide (1 ≤ s) && decide (s ≤ 2147483646)) = true from hs)
          clear hs hdec HJ
          go_upto_region 10 with (first | (go_at_call 48; refine (C_in' _ _ _ _ _ (by exact HSd.out)).mono ?_; rintro e w' ⟨rfl, rfl⟩))
          go_wp2
          go_loopw [8, 1, 6] (fun i sd o wr => ∃ (j : Nat) (q : Int) (u : Value) (qs : SLsO) (L : List Ent), j ≤ k ∧ i = .int .i64 j ∧ sd = .int .i64 q ∧ o = u ∧ Hid (seedOk q = true) ∧ Hid ((js, z) = (qs.map slyO ++ (splitLs (ls.drop j) q).1, (splitLs (ls.drop j) q).2)) ∧ Hid (qs.length = j) ∧ Hid (L = .row 36 2 u j (cellsSL qs) :: rowsSL qs) ∧ St w0 wr L) (fun i _ _ _ => k - (intOf i).toNat)
          case atStart => exact ⟨0, s, _, [], L, Nat.zero_le _, rfl, rfl, rfl, HS, Lib.hid (by rw [List.drop_zero]; exact HJ0.out.symm), Lib.hid rfl, Lib.hid HL.out, S⟩
          case round =>
            clear F HL S HS HJ0 HSd
            obtain ⟨j, q, uo, qs, L, hj, rfl, rfl, rfl, HS, HJ, HPL, HL, S⟩ := hrel
            have F : True := trivial
            by_cases hlt2 : j < k
            · obtain ⟨b0, off, rfl, hb, hc⟩ := HA.out (by omega)
              obtain ⟨l, hm⟩ := some_at HN.out hlt2
              have hlok := all_at HALL.out hm
              have hj2 := HJ.out
              rw [drop_at hm] at hj2
              obtain ⟨kind, ms⟩ := l
              obtain ⟨hml, hmok⟩ := Ly.ok_ms hlok
              obtain ⟨x, c1, c2, hu⟩ := hc j _ hm
              dsimp only at c1 c2 hu hml hmok
              have HMOK := Lib.hid hmok
              have HJ2 : Hid ((js, z) = (qs.map slyO ++ ⟨kind, (splitMs ms q).1⟩ :: (splitLs (ls.drop (j + 1)) (splitMs ms q).2).1, (splitLs (ls.drop (j + 1)) (splitMs ms q).2).2)) := Lib.hid hj2
              obtain ⟨m, hmm⟩ : ∃ m, ms.length = m := ⟨_, rfl⟩
              obtain ⟨A', cap', rfl, hcap', hmax', hA'⟩ := hu
              rw [hmm] at hcap' hA' hml c2
              have HM := Lib.hid hmm
              have HA' := Lib.hid hA'
              obtain ⟨Ao, co, rfl, hco, hmo⟩ := S.sliceOf (atOf HL (p := 0) rfl)
              have f1 := fun w' (S' : St w0 w' L) => (S'.below.cell (p := ⟨b0, off + j * 2, none⟩) hb).trans c1
              have C2 := Lib.hid c2
              clear hA' hmm hc hm hj2 hmok hlok HJ c1 c2
              unfold maxLen at hmax'
              go_upto_region 14 with (first | (refine wpList_alloc rfl S 36 _ rfl zSLy ?_; intro gl w L hM T; clear F S; (try rw [HL.out] at hM); clear HL; (try simp [Act.put, Act.eval, Value.cells, splice] at hM); have HL := Lib.hid hM; clear hM; have S := T; clear T; have F := factsAll HL S; (try simp only [factsOf, cellsFrom, and_true, true_and, Nat.reduceAdd] at F)) | (refine wpList_store_box rfl S _ _ _ rfl 0 _ _ _ _ (atOf HL rfl) rfl _ rfl (by kernel_rfl) rfl rfl ?_; intro w L hM T; clear F S; (try rw [HL.out] at hM); clear HL; (try simp [Act.put, Act.eval, Value.cells, splice] at hM); have HL := Lib.hid hM; clear hM; have S := T; clear T; have F := factsAll HL S; (try simp only [factsOf, cellsFrom, and_true, true_and, Nat.reduceAdd] at F)))
              clear f1
              go_wp2
              rw [HL.out] at S
              have T := S.nilRow 67 6
              clear S HL F
              have S := T
              clear T
              obtain ⟨L, hM, T⟩ := st_name S; clear S; have S := T; clear T; have HL := Lib.hid hM; clear hM; have F := factsAll HL S; (try simp only [factsOf, cellsFrom, and_true, true_and, Nat.reduceAdd] at F)
              go_loopw [10, 1] (fun i sd wr => ∃ (i2 : Nat) (q2 : Int) (ps : SMsO) (u : Value) (L : List Ent), i2 ≤ m ∧ i = .int .i64 i2 ∧ sd = .int .i64 q2 ∧ Hid (seedOk q2 = true) ∧ Hid (splitMs ms q = (ps.map smO ++ (splitMs (ms.drop i2) q2).1, (splitMs (ms.drop i2) q2).2)) ∧ Hid (ps.length = i2) ∧ Hid (L = .row 67 6 u i2 (cellsSM ps) :: .box gl 36 [.int .i64 kind, u] :: .row 36 2 (.slice Ao j co) j (cellsSL qs) :: (rowsSM ps ++ rowsSL qs)) ∧ St w0 wr L) (fun i _ _ => m - (intOf i).toNat)
              case atStart => exact ⟨0, q, [], _, L, Nat.zero_le _, rfl, rfl, HS, Lib.hid rfl, Lib.hid rfl, Lib.hid HL.out, S⟩
              case round =>
                clear F HL S HS
                obtain ⟨i2, q2, ps, u, L, hi2, rfl, rfl, HS, HQ, HPS, HL, S⟩ := hrel
                obtain ⟨Au, cu, rfl, hcu, hmu⟩ := S.sliceOf (atOf HL (p := 0) rfl)
                have F := factsAll HL S
                simp only [factsOf, cellsFrom, and_true, true_and, Nat.reduceAdd] at F
                have f2 := fun w' (S' : St w0 w' L) => (S'.below.cell (p := ⟨b0, off + j * 2 + 1, none⟩) hb).trans C2.out
                by_cases hlt3 : i2 < m
                · obtain ⟨b', off', rfl, hb', hc'⟩ := HA'.out (by omega)
                  obtain ⟨mm, hm2⟩ := some_at HM.out hlt3
                  obtain ⟨x1, d1, d2, d3, hx1⟩ := hc' i2 _ hm2
                  have hq := HQ.out
                  rw [drop_at hm2] at hq
                  obtain ⟨Rr, Cc, e0, r1, r2, e1, e2, hRC, hN25, hall⟩ := mx_nat (HMOK.out _ (List.mem_of_getElem? hm2))
                  obtain ⟨r, c, xs⟩ := mm
                  dsimp only at d1 d2 d3 hx1 hRC hN25 hall
                  obtain ⟨rfl, rfl⟩ : r = Rr ∧ c = Cc := by injection e0 with e1 e2 _; exact ⟨e1, e2⟩
                  have H1 := Lib.hid hx1
                  obtain ⟨-, A1, k1, rfl, hk1, hm1, -⟩ := hx1
                  have CJ := fun w h => C_spec_SplitMatrix Rr Cc xs.length xs (.slice A1 xs.length k1) q2 w h HS.out r1 r2 e1 e2 hRC rfl hN25 hall
                  have HQ2 : Hid (splitMs ms q = (ps.map smO ++ ⟨⟨Rr, Cc, rndTo q2 xs.length⟩, ⟨Rr, Cc, tab xs.length (subV xs (rndTo q2 xs.length))⟩⟩ :: (splitMs (ms.drop (i2 + 1)) (seedAt q2 xs.length)).1, (splitMs (ms.drop (i2 + 1)) (seedAt q2 xs.length)).2)) := Lib.hid hq
                  have HSN := Lib.hid (seedOk_at HS.out xs.length)
                  have hl1 := rndTo_length q2 xs.length
                  have hl2 : (tab xs.length (subV xs (rndTo q2 xs.length))).length = xs.length := tab_length _ _
                  generalize tab xs.length (subV xs (rndTo q2 xs.length)) = zs at CJ HQ2 hl2
                  generalize rndTo q2 xs.length = rs at CJ HQ2 hl1
                  generalize seedAt q2 xs.length = q3 at CJ HQ2 HSN
                  have HL1 := Lib.hid hl1
                  have HL2 := Lib.hid hl2
                  clear hq hRC hall hl1 hl2 e0 HQ
                  have g1 := fun w' (S' : St w0 w' L) => (S'.below.cell (p := ⟨b', off' + i2 * 3, none⟩) hb').trans d1
                  have g2 := fun w' (S' : St w0 w' L) => (S'.below.cell (p := ⟨b', off' + i2 * 3 + 1, none⟩) hb').trans d2
                  have g3 := fun w' (S' : St w0 w' L) => (S'.below.cell (p := ⟨b', off' + i2 * 3 + 2, none⟩) hb').trans d3
                  clear hc' d1 d2 d3 hm2
                  go_upto_region 18 with (first | (refine wpList_alloc rfl S 67 _ rfl zSMx ?_; intro gs w L hM T; clear F S; (try rw [HL.out] at hM); clear HL; (try simp [Act.put, Act.eval, Value.cells, splice] at hM); have HL := Lib.hid hM; clear hM; have S := T; clear T; have F := factsAll HL S; (try simp only [factsOf, cellsFrom, and_true, true_and, Nat.reduceAdd] at F)) | (refine wpList_store_box rfl S _ _ _ rfl 0 _ _ _ _ (atOf HL rfl) rfl _ rfl (by kernel_rfl) rfl rfl ?_; intro w L hM T; clear F S; (try rw [HL.out] at hM); clear HL; (try simp [Act.put, Act.eval, Value.cells, splice] at hM); have HL := Lib.hid hM; clear hM; have S := T; clear T; have F := factsAll HL S; (try simp only [factsOf, cellsFrom, and_true, true_and, Nat.reduceAdd] at F)) | (go_at_call 49; refine (CJ _ (H1.out.at_ S)).mono ?_; rintro e w ⟨u1, v1, rfl, T0⟩; obtain ⟨L, hM, T⟩ := st_name (S.call T0); clear T0; clear F S; (try rw [HL.out] at hM); clear HL; (try simp [Act.put, Act.eval, Value.cells, splice] at hM); have HL := Lib.hid hM; clear hM; have S := T; clear T; have F := factsAll HL S; (try simp only [factsOf, cellsFrom, and_true, true_and, Nat.reduceAdd] at F); obtain ⟨Av, cv, rfl, hcv, hmv⟩ := S.sliceOf (atOf HL (p := 0) rfl); obtain ⟨Aw, cw, rfl, hcw, hmw⟩ := S.sliceOf (atOf HL (p := 1) rfl)))
                  clear f2 g1 g2 g3
                  go_upto_region 19 with (first | (refine wpList_litZ rfl S _ _ rfl 67 Try.underlying34 infoSMx _ _ _ _ _ _ rfl ?_; intro g w L hM T; clear F S; (try rw [HL.out] at hM); clear HL; (try simp [Act.put, Act.eval, Value.cells, splice] at hM); have HL := Lib.hid hM; clear hM; have S := T; clear T; have F := factsAll HL S; (try simp only [factsOf, cellsFrom, and_true, true_and, Nat.reduceAdd] at F)) | (refine wpList_append_boxB rfl S _ _ _ rfl 67 _ 6 80 Try.underlying34 infoSMx rfl (by omega) 4 _ _ _ rfl (atOf HL rfl) (by omega) 0 _ _ _ _ _ rfl (atOf HL rfl) rfl rfl rfl rfl ?_; intro u w L hM T; clear F S; (try rw [HL.out] at hM); clear HL; (try simp [Act.put, Act.eval, Value.cells, splice] at hM); have HL := Lib.hid hM; clear hM; have S := T; clear T; have F := factsAll HL S; (try simp only [factsOf, cellsFrom, and_true, true_and, Nat.reduceAdd] at F); obtain ⟨Au2, cu2, rfl, hcu2, hmu2⟩ := S.sliceOf (atOf HL (p := 4) rfl)) | (refine wpList_store_box rfl S _ _ _ rfl 5 _ _ _ _ (atOf HL rfl) rfl _ rfl (by kernel_rfl) rfl rfl ?_; intro w L hM T; clear F S; (try rw [HL.out] at hM); clear HL; (try simp [Act.put, Act.eval, Value.cells, splice] at hM); have HL := Lib.hid hM; clear hM; have S := T; clear T; have F := factsAll HL S; (try simp only [factsOf, cellsFrom, and_true, true_and, Nat.reduceAdd] at F)))
                  go_wp2
                  go_roundw
                  case rel =>
                    rw [HL.out] at S
                    have T := (S.sub (.cons _ (.cons _ (.refl _)))).perm (sp_perm3 _ _ _ _ _ _ _)
                    refine ⟨i2 + 1, q3, ps ++ [(.slice Aw xs.length cw, .slice Av xs.length cv, ⟨⟨Rr, Cc, rs⟩, ⟨Rr, Cc, zs⟩⟩)], .slice Au2 (i2 + 1) cu2, _, by omega, by go_num, rfl, HSN, Lib.hid (by rw [HQ2.out, List.map_append, List.append_assoc]; rfl), Lib.hid (by rw [List.length_append, HPS.out]; rfl), Lib.hid rfl, ?_⟩
                    rw [cellsSM_add, rowsSM_add]
                    show St w0 w (.row _ _ _ _ (cellsSM ps ++ [.int .i64 Rr, .int .i64 Cc, .slice Aw xs.length cw, .int .i64 Rr, .int .i64 Cc, .slice Av xs.length cv]) :: _ :: _ :: ((rowsSM ps ++ [.row 3 1 (.slice Aw xs.length cw) rs.length (ints rs), .row 3 1 (.slice Av xs.length cv) zs.length (ints zs)]) ++ rowsSL qs))
                    rw [HL1.out, HL2.out]
                    exact T
                  case measure => simp [intOf]; omega
                · obtain rfl : i2 = m := by omega
                  have hq := HQ.out
                  rw [List.drop_of_length_le (Nat.le_of_eq HM.out), splitMs, List.append_nil] at hq
                  have HQE := Lib.hid hq
                  clear hq
                  go_upto_region 20 with fail
                  clear f2
                  go_wp2_with (first | (refine wpList_litY rfl S _ _ rfl 36 Try.underlying23 infoSLy _ _ rfl ?_; intro g w L hM T; clear F S; (try rw [HL.out] at hM); clear HL; (try simp [Act.put, Act.eval, Value.cells, splice] at hM); have HL := Lib.hid hM; clear hM; have S := T; clear T; have F := factsAll HL S; (try simp only [factsOf, cellsFrom, and_true, true_and, Nat.reduceAdd] at F)) | (refine wpList_append_boxB rfl S _ _ _ rfl 36 _ 2 32 Try.underlying23 infoSLy rfl (by omega) _ _ _ _ rfl (by first | exact atOf HL (p := 0) rfl | exact atOf HL (p := 1) rfl | exact atOf HL (p := 2) rfl | exact atOf HL (p := 3) rfl | exact atOf HL (p := 4) rfl | exact atOf HL (p := 5) rfl | exact atOf HL (p := 6) rfl | exact atOf HL (p := 7) rfl) (by omega) _ _ _ _ _ _ rfl (by first | exact atOf HL (p := 0) rfl | exact atOf HL (p := 1) rfl | exact atOf HL (p := 2) rfl | exact atOf HL (p := 3) rfl | exact atOf HL (p := 4) rfl | exact atOf HL (p := 5) rfl | exact atOf HL (p := 6) rfl | exact atOf HL (p := 7) rfl) rfl rfl rfl rfl ?_; intro u w L hM T; clear F S; (try rw [HL.out] at hM); clear HL; (try simp [Act.put, Act.eval, Value.cells, splice] at hM); have HL := Lib.hid hM; clear hM; have S := T; clear T; have F := factsAll HL S; (try simp only [factsOf, cellsFrom, and_true, true_and, Nat.reduceAdd] at F)))
                  go_roundw
                  case rel =>
                    rw [HL.out] at S
                    have T := (S.sub (.cons _ (.cons_cons _ (.cons _ (.refl _))))).perm (sp_perm2 _ _ _ _)
                    refine ⟨j + 1, q2, _, qs ++ [(.slice Au i2 cu, kind, ps)], _, by omega, by go_num, rfl, rfl, HS, Lib.hid ?_, Lib.hid (by rw [List.length_append, HPL.out]; rfl), Lib.hid rfl, ?_⟩
                    · rw [HJ2.out, HQE.out, List.map_append, List.append_assoc]
                      rfl
                    · have e1 : cellsSL (qs ++ [(Value.slice Au i2 cu, kind, ps)]) = cellsSL qs ++ [.int .i64 kind, .slice Au i2 cu] := by
                        rw [cellsSL_add]; rfl
                      have e2 : rowsSL (qs ++ [(Value.slice Au i2 cu, kind, ps)]) = rowsSL qs ++ (.row 67 6 (.slice Au i2 cu) i2 (cellsSM ps) :: rowsSM ps) := by
                        rw [rowsSL_add]
                        show rowsSL qs ++ (entsSM (.slice Au i2 cu) ps ++ []) = _
                        rw [List.append_nil]
                        unfold entsSM
                        rw [HPS.out]
                      rw [e1, e2]
                      exact T
                  case measure => simp [intOf]; omega
            · obtain rfl : j = k := by omega
              have hj := HJ.out
              rw [List.drop_of_length_le (Nat.le_of_eq HN.out), splitLs, List.append_nil] at hj
              injection hj with e1 e2
              subst e1 e2
              go_wp2
              refine ret2 rfl (show _ = _ from rfl) (show _ = _ from rfl) rfl ?_
              rw [HL.out] at S
              refine ⟨_, qs, rfl, rfl, ?_⟩
              unfold entsSL
              rw [HPL.out]
              exact St.rebaseS HBB.out S
      · obtain ⟨rfl, rfl⟩ : js = [] ∧ z = 0 := by
          have := HJ.out
          rw [splitRes_bad (by rw [HN.out, decide_eq_false h4]; rfl)] at this
          injection this with e1 e2
          exact ⟨e1.symm, e2.symm⟩
        go_wp2_with (first | (refine wpList_empty rfl S _ rfl 36 Try.underlying23 infoSLy ?_; intro g w L hM T; clear F S; (try rw [HL.out] at hM); clear HL; (try simp [Act.put, Act.eval, Value.cells, splice] at hM); have HL := Lib.hid hM; clear hM; have S := T; clear T; have F := factsAll HL S; (try simp only [factsOf, cellsFrom, and_true, true_and, Nat.reduceAdd] at F)))
        refine ret2 rfl (show _ = _ from rfl) (show _ = _ from rfl) rfl ?_
        rw [HL.out] at S
        first | exact ⟨_, [], rfl, rfl, St.rebaseS HBB.out (S.sub (.cons_cons _ (List.nil_sublist _)))⟩ | exact ⟨_, rfl, St.rebaseS HBB.out (S.sub (.cons_cons _ (List.nil_sublist _)))⟩
end Go.Proofs.Ytdfpceobfficfaa
