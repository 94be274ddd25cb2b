/- SpI SpS SpF DrawQ -/
import Derived.Test.YtjgfjfjboimgdaaGreatY40
import Derived.Test.YtjgfjfjboimgdaaGreatY47
namespace Go.Proofs.YtjgfjfjboimgdaaGreat
set_option linter.unusedSimpArgs false
set_option linter.unusedVariables false
set_option linter.unusedSectionVars false
open Go Go.RowKit
set_option maxHeartbeats 8000000
set_option maxRecDepth 20000
section
def slz : Value × Int × SMsO := (.slice none 0 0, 0, [])
theorem made_sls : ∀ n : Nat, (madeCells #[Value.int .i64 0, Value.slice none 0 0] (n * 2)).toList = cellsSL (List.replicate n slz)
  | 0 => by simp [madeCells, cellsSL]
  | n + 1 => by
    have e : (madeCells #[Value.int .i64 0, Value.slice none 0 0] ((n + 1) * 2)).toList = (madeCells #[Value.int .i64 0, Value.slice none 0 0] (n * 2)).toList ++ [.int .i64 0, .slice none 0 0] := by
      unfold madeCells
      simp only [Array.toList_map, Array.toList_range]
      rw [show (n + 1) * 2 = n * 2 + 1 + 1 by omega, List.range_succ, List.range_succ, List.map_append, List.map_append]
      have h1 : n * 2 % 2 = 0 := by omega
      have h2 : (n * 2 + 1) % 2 = 1 := by omega
      simp [h1, h2]
    rw [e, made_sls n, List.replicate_succ', cellsSL_add]
    rfl
theorem sp_one {A R : List Value} {x y z : Value} {k : Nat} (h : A.length = k * 2) : splice (A ++ (x :: y :: R)) (k * 2) [z] = A ++ (z :: y :: R) := by
  rw [splice_app _ _ _ _ h]
  simp
theorem sp_perm2 (m l : Ent) (A B : List Ent) : (m :: l :: (A ++ B)).Perm (l :: (B ++ (m :: A))) :=
  (List.Perm.swap _ _ _).trans (.cons _ (List.perm_append_comm (l₁ := m :: A) (l₂ := B)))
theorem all_at {ls : List Ly} {k : Nat} {l : Ly} (h : ls.all Ly.ok = true) (hk : ls[k]? = some l) : l.ok = true := List.all_eq_true.1 h l (List.mem_of_getElem? hk)
end
section
theorem St.rebaseS {w0 w1 w : World} {L : List Ent} (hb : Below w0.heap.size w0 w1) (T : St w1 w L) : St w0 w L :=
  ⟨hb.trans (T.below.mono hb.size), fun e he => Ent.holds_base (T.own e he) hb.size, T.apart⟩
theorem sp_perm3 (v u m b l : Ent) (A B : List Ent) : (v :: u :: m :: b :: l :: (A ++ B)).Perm (m :: b :: l :: ((A ++ [u, v]) ++ B)) := by
  rw [List.append_assoc]
  refine (List.Perm.swap _ _ _).trans ?_
  exact (List.perm_append_comm_assoc [u, v] [m, b, l] (A ++ B)).trans ((((List.perm_append_comm_assoc [u, v] A B).cons l).cons b).cons m)
theorem all_badS {ls : List Ly} {k : Nat} {l : Ly} (h : ls[k]? = some l) (hl : l.ok = false) : (decide (ls.length ≤ 4) && ls.all Ly.ok) = false := by
  have : ls.all Ly.ok = false := by
    cases hc : ls.all Ly.ok with
    | false => rfl
    | true => rw [all_at hc h] at hl; cases hl
  rw [this, Bool.and_false]
theorem all_good {ls : List Ly} (h : ∀ q l, q < ls.length → ls[q]? = some l → l.ok = true) : ls.all Ly.ok = true := by
  rw [List.all_eq_true]
  intro x hx
  obtain ⟨q, hq⟩ := List.mem_iff_getElem?.1 hx
  exact h q x (List.getElem?_eq_some_iff.1 hq).1 hq
theorem C_spec_SplitNet (v : Value) (ls : List Ly) (s z : Int) (js : List SLy) (wz : World) (h : SeesLs wz v ls) (hn0 : ls.length ≤ 1048576) (hx : ∀ l ∈ ls, LySmall 1048576 l) (hj : splitRes ls s = (js, z)) :
    Calls Tryz.prog 114 #[v, .int .i64 s] wz fun e w => ∃ u qs, e = .returned (.tuple #[u, .int .i64 z]) ∧ qs.map slyO = js ∧ St wz w (entsSL u qs) := by
  have H := Lib.hid h
  have HX := Lib.hid hx
  have HJ := Lib.hid hj
  obtain ⟨A, cap, rfl, hcap, hmax, _⟩ := h
  clear hx hj
  obtain ⟨L, HL, S⟩ := st_start wz; have F : True := trivial
  go_enter Tryz.func114, Tryz.ntmps114
  go_upto_region 2 with (first | (go_at_call 157; refine (C_l1OwnLayerList _ ls _ (H.out.at_ S) hn0 HX.out).mono ?_; rintro e w0 ⟨u0, qs0, rfl, hqs, T0⟩; have HS := Lib.hid (hqs ▸ sees_ls T0 (fun e he => he) : SeesLs w0 u0 ls); have HBB := Lib.hid (S.below.trans (T0.below.mono S.below.size)); clear S HL F T0 hqs; obtain ⟨L, HL, S⟩ := st_start w0; have F : True := trivial))
  obtain ⟨A0, c0, rfl, hc0, hm0, hA⟩ := HS.out
  clear HS H hcap hmax
  obtain ⟨n, hn⟩ : ∃ n, ls.length = n := ⟨_, rfl⟩
  rw [hn] at hc0 hA hn0
  (try rw [hn])
  have HN := Lib.hid hn
  have HA := Lib.hid hA
  clear hA hn
  unfold maxLen at hm0
  go_upto_region 3 with (refine wpList_empty rfl S _ rfl 105 Tryz.underlying56 infoSLy ?_; clear F S; intro g w L hM S; replace HL := qNm HL hM; clear hM; have F := qFc HL S)
  go_wp2
  go_loopw [7] (fun i wr => ∃ (k : Nat), k ≤ n ∧ i = .int .i64 k ∧ Hid (∀ q l, q < k → ls[q]? = some l → l.ok = true) ∧ St w0 wr L) (fun i _ => n - (intOf i).toNat)
  case atStart => exact ⟨0, Nat.zero_le _, rfl, Lib.hid (fun q l h => absurd h (by omega)), S⟩
  case round =>
    clear S
    obtain ⟨k, hk, rfl, HOK, S⟩ := hrel
    by_cases hlt : k < n
    · obtain ⟨b0, off, rfl, hb, hc⟩ := HA.out (by omega)
      obtain ⟨l, hm⟩ := some_at HN.out hlt
      have HG := Lib.hid hm
      obtain ⟨kind, ms⟩ := l
      obtain ⟨x, c1, c2, hu⟩ := hc k _ hm
      dsimp only at c1 c2 hu
      have HU := Lib.hid hu
      obtain ⟨A', cap', rfl, hcap', hmax', _⟩ := hu
      have f1 := fun w' (S' : St w0 w' L) => (S'.below.cell (p := ⟨b0, off + k * 2, none⟩) hb).trans c1
      have f2 := fun w' (S' : St w0 w' L) => (S'.below.cell (p := ⟨b0, off + k * 2 + 1, none⟩) hb).trans c2
      clear hc c1 c2 hm
      cases hok : (Ly.mk kind ms).ok with
      | false =>
        have CL := fun w h => C_spec_LayerValid (.slice A' ms.length cap') kind ms false w h hok
        obtain ⟨rfl, rfl⟩ : js = [] ∧ z = 0 := by
          have := HJ.out
          rw [splitRes_bad (all_badS HG.out hok)] at this
          injection this with e1 e2
          exact ⟨e1.symm, e2.symm⟩
        go_wp2_with (first | (go_at_call 123; refine qGr S (CL _ (HU.out.at_ S)) ?_; clear S; intro w S) | (refine wpList_empty rfl S _ rfl 105 Tryz.underlying56 infoSLy ?_; clear F S; intro g w L hM S; replace HL := qNm HL hM; clear hM; have F := qFc HL S))
        refine ret2 rfl (show _ = _ from rfl) (show _ = _ from rfl) rfl ?_
        rw [HL.out] at S
        exact ⟨_, [], rfl, rfl, St.rebaseS HBB.out (S.sub (.cons_cons _ (List.nil_sublist _)))⟩
      | true =>
        have CL := fun w h => C_spec_LayerValid (.slice A' ms.length cap') kind ms true w h hok
        have HOKN := Lib.hid hok
        clear hok
        go_wp2_with (first | (go_at_call 123; refine qGr S (CL _ (HU.out.at_ S)) ?_; clear S; intro w S))
        go_roundw
        case rel =>
          refine ⟨k + 1, by omega, by go_num, Lib.hid ?_, S⟩
          intro q l hq hl
          by_cases h : q = k
          · subst h
            rw [HG.out] at hl
            injection hl with hl
            subst hl
            exact HOKN.out
          · exact HOK.out q l (by omega) hl
        case measure => simp [intOf]; omega
    · obtain rfl : k = n := by omega
      have HALL := Lib.hid (all_good (ls := ls) (by rw [HN.out]; exact HOK.out))
      clear HOK
      by_cases h4 : k ≤ 4
      · have hdec : (decide (ls.length ≤ 4) && ls.all Ly.ok) = true := by rw [HALL.out, HN.out, decide_eq_true h4]; rfl
        cases hs : seedOk s with
        | false =>
          obtain ⟨rfl, rfl⟩ : js = [] ∧ z = 0 := by
            have := HJ.out
            rw [splitRes_seed hs] at this
            injection this with e1 e2
            exact ⟨e1.symm, e2.symm⟩
          have HSd := Lib.hid (show (decide (1 ≤ s) && decide (s ≤ 2147483646)) = false from hs)
          clear hs hdec
          go_wp2_with (first | (go_at_call 44; refine qPu (C_in' _ _ _ _ _ (by exact HSd.out)) ?_) | (refine wpList_empty rfl S _ rfl 105 Tryz.underlying56 infoSLy ?_; clear F S; intro g w L hM S; replace HL := qNm HL hM; clear hM; have F := qFc HL S))
          refine ret2 rfl (show _ = _ from rfl) (show _ = _ from rfl) rfl ?_
          rw [HL.out] at S
          exact ⟨_, [], rfl, rfl, St.rebaseS HBB.out (S.sub (.cons_cons _ (List.nil_sublist _)))⟩
        | true =>
          have HJ0 := Lib.hid ((splitRes_ok hdec hs).symm.trans HJ.out)
          have HS := Lib.hid hs
          have HSd := Lib.hid (show (decide (1 ≤ s) && decide (s ≤ 2147483646)) = true from hs)
          clear hs hdec HJ
          go_upto_region 10 with (first | (go_at_call 44; refine qPu (C_in' _ _ _ _ _ (by exact HSd.out)) ?_))
          go_wp2
          go_loopw [8, 1, 6] (fun i sd o wr => ∃ (j : Nat) (q : Int) (u : Value) (qs : SLsO) (L : List Ent), j ≤ k ∧ i = .int .i64 j ∧ sd = .int .i64 q ∧ o = u ∧ Hid (seedOk q = true) ∧ Hid ((js, z) = (qs.map slyO ++ (splitLs (ls.drop j) q).1, (splitLs (ls.drop j) q).2)) ∧ Hid (qs.length = j) ∧ Hid (L = .row 105 2 u j (cellsSL qs) :: rowsSL qs) ∧ St w0 wr L) (fun i _ _ _ => k - (intOf i).toNat)
          case atStart => exact ⟨0, s, _, [], L, Nat.zero_le _, rfl, rfl, rfl, HS, Lib.hid (by rw [List.drop_zero]; exact HJ0.out.symm), Lib.hid rfl, Lib.hid HL.out, S⟩
          case round =>
            clear F HL S HS HJ0 HSd
            obtain ⟨j, q, uo, qs, L, hj, rfl, rfl, rfl, HS, HJ, HPL, HL, S⟩ := hrel
            have F : True := trivial
            by_cases hlt2 : j < k
            · obtain ⟨b0, off, rfl, hb, hc⟩ := HA.out (by omega)
              obtain ⟨l, hm⟩ := some_at HN.out hlt2
              have hlok := all_at HALL.out hm
              have hj2 := HJ.out
              rw [drop_at hm] at hj2
              obtain ⟨kind, ms⟩ := l
              obtain ⟨hml, hmok⟩ := Ly.ok_ms hlok
              obtain ⟨x, c1, c2, hu⟩ := hc j _ hm
              dsimp only at c1 c2 hu hml hmok
              have HMOK := Lib.hid hmok
              have HJ2 : Hid ((js, z) = (qs.map slyO ++ ⟨kind, (splitMs ms q).1⟩ :: (splitLs (ls.drop (j + 1)) (splitMs ms q).2).1, (splitLs (ls.drop (j + 1)) (splitMs ms q).2).2)) := Lib.hid hj2
              obtain ⟨m, hmm⟩ : ∃ m, ms.length = m := ⟨_, rfl⟩
              obtain ⟨A', cap', rfl, hcap', hmax', hA'⟩ := hu
              rw [hmm] at hcap' hA' hml c2
              have HM := Lib.hid hmm
              have HA' := Lib.hid hA'
              obtain ⟨Ao, co, rfl, hco, hmo⟩ := qSl HL S 0
              have f1 := fun w' (S' : St w0 w' L) => (S'.below.cell (p := ⟨b0, off + j * 2, none⟩) hb).trans c1
              have C2 := Lib.hid c2
              clear hA' hmm hc hm hj2 hmok hlok HJ c1 c2
              unfold maxLen at hmax'
              go_upto_region 14 with (first | (refine qal HL S zSLy ?_; clear F S HL; intro gl w L HL S F) | (refine qst HL S 0 ?_; clear F S HL; intro w L HL S F))
              clear f1
              go_wp2
              rw [HL.out] at S
              have T := S.nilRow 32 6
              clear S HL F
              have S := T
              clear T
              obtain ⟨L, hM, T⟩ := st_name S; clear S; have S := T; clear T; have HL := Lib.hid hM; clear hM; have F := qFc HL S
              go_loopw [10, 1] (fun i sd wr => ∃ (i2 : Nat) (q2 : Int) (ps : SMsO) (u : Value) (L : List Ent), i2 ≤ m ∧ i = .int .i64 i2 ∧ sd = .int .i64 q2 ∧ Hid (seedOk q2 = true) ∧ Hid (splitMs ms q = (ps.map smO ++ (splitMs (ms.drop i2) q2).1, (splitMs (ms.drop i2) q2).2)) ∧ Hid (ps.length = i2) ∧ Hid (L = .row 32 6 u i2 (cellsSM ps) :: .box gl 105 [.int .i64 kind, u] :: .row 105 2 (.slice Ao j co) j (cellsSL qs) :: (rowsSM ps ++ rowsSL qs)) ∧ St w0 wr L) (fun i _ _ => m - (intOf i).toNat)
              case atStart => exact ⟨0, q, [], _, L, Nat.zero_le _, rfl, rfl, HS, Lib.hid rfl, Lib.hid rfl, Lib.hid HL.out, S⟩
              case round =>
                clear F HL S HS
                obtain ⟨i2, q2, ps, u, L, hi2, rfl, rfl, HS, HQ, HPS, HL, S⟩ := hrel
                obtain ⟨Au, cu, rfl, hcu, hmu⟩ := qSl HL S 0
                have F := factsAll HL S
                simp only [factsOf, cellsFrom, and_true, true_and, Nat.reduceAdd] at F
                have f2 := fun w' (S' : St w0 w' L) => (S'.below.cell (p := ⟨b0, off + j * 2 + 1, none⟩) hb).trans C2.out
                by_cases hlt3 : i2 < m
                · obtain ⟨b', off', rfl, hb', hc'⟩ := HA'.out (by omega)
                  obtain ⟨mm, hm2⟩ := some_at HM.out hlt3
                  obtain ⟨x1, d1, d2, d3, hx1⟩ := hc' i2 _ hm2
                  have hq := HQ.out
                  rw [drop_at hm2] at hq
                  obtain ⟨Rr, Cc, e0, r1, r2, e1, e2, hRC, hN25, hall⟩ := mx_nat (HMOK.out _ (List.mem_of_getElem? hm2))
                  obtain ⟨r, c, xs⟩ := mm
                  dsimp only at d1 d2 d3 hx1 hRC hN25 hall
                  obtain ⟨rfl, rfl⟩ : r = Rr ∧ c = Cc := by injection e0 with e1 e2 _; exact ⟨e1, e2⟩
                  have H1 := Lib.hid hx1
                  obtain ⟨-, A1, k1, rfl, hk1, hm1, -⟩ := hx1
                  have CJ := fun w h => C_spec_SplitMatrix Rr Cc xs.length xs (.slice A1 xs.length k1) q2 w h HS.out r1 r2 e1 e2 hRC rfl hN25 hall
                  have HQ2 : Hid (splitMs ms q = (ps.map smO ++ ⟨⟨Rr, Cc, rndTo q2 xs.length⟩, ⟨Rr, Cc, tab xs.length (subV xs (rndTo q2 xs.length))⟩⟩ :: (splitMs (ms.drop (i2 + 1)) (seedAt q2 xs.length)).1, (splitMs (ms.drop (i2 + 1)) (seedAt q2 xs.length)).2)) := Lib.hid hq
                  have HSN := Lib.hid (seedOk_at HS.out xs.length)
                  have hl1 := rndTo_length q2 xs.length
                  have hl2 : (tab xs.length (subV xs (rndTo q2 xs.length))).length = xs.length := tab_length _ _
                  generalize tab xs.length (subV xs (rndTo q2 xs.length)) = zs at CJ HQ2 hl2
                  generalize rndTo q2 xs.length = rs at CJ HQ2 hl1
                  generalize seedAt q2 xs.length = q3 at CJ HQ2 HSN
                  have HL1 := Lib.hid hl1
                  have HL2 := Lib.hid hl2
                  clear hq hRC hall hl1 hl2 e0 HQ
                  have g1 := fun w' (S' : St w0 w' L) => (S'.below.cell (p := ⟨b', off' + i2 * 3, none⟩) hb').trans d1
                  have g2 := fun w' (S' : St w0 w' L) => (S'.below.cell (p := ⟨b', off' + i2 * 3 + 1, none⟩) hb').trans d2
                  have g3 := fun w' (S' : St w0 w' L) => (S'.below.cell (p := ⟨b', off' + i2 * 3 + 2, none⟩) hb').trans d3
                  clear hc' d1 d2 d3 hm2
                  go_upto_region 18 with (first | (refine qal HL S zSMx ?_; clear F S HL; intro gs w L HL S F) | (refine qst HL S 0 ?_; clear F S HL; intro w L HL S F) | (go_at_call 107; refine (CJ _ (H1.out.at_ S)).mono ?_; rintro e w ⟨u1, v1, rfl, T0⟩; have hX := qcl HL S T0; clear F S HL T0; obtain ⟨L, HL, S, F⟩ := hX; obtain ⟨Av, cv, rfl, hcv, hmv⟩ := qSl HL S 0; obtain ⟨Aw, cw, rfl, hcw, hmw⟩ := qSl HL S 1))
                  clear f2 g1 g2 g3
                  go_upto_region 19 with (first | (refine wpList_litZ rfl S _ _ rfl 32 Tryz.underlying35 infoSMx _ _ _ _ _ _ rfl ?_; clear F S; intro g w L hM S; replace HL := qNm HL hM; clear hM; have F := qFc HL S) | (refine wpList_append_boxB rfl S _ _ _ rfl 32 _ 6 80 Tryz.underlying35 infoSMx rfl (by omega) 4 _ _ _ rfl (atOf HL rfl) (by omega) 0 _ _ _ _ _ rfl (atOf HL rfl) rfl rfl rfl rfl ?_; clear F S; intro u w L hM S; replace HL := qNm HL hM; clear hM; have F := qFc HL S; obtain ⟨Au2, cu2, rfl, hcu2, hmu2⟩ := qSl HL S 4) | (refine qst HL S 5 ?_; clear F S HL; intro w L HL S F))
                  go_wp2
                  go_roundw
                  case rel =>
                    rw [HL.out] at S
                    have T := (S.sub (.cons _ (.cons _ (.refl _)))).perm (sp_perm3 _ _ _ _ _ _ _)
                    refine ⟨i2 + 1, q3, ps ++ [(.slice Aw xs.length cw, .slice Av xs.length cv, ⟨⟨Rr, Cc, rs⟩, ⟨Rr, Cc, zs⟩⟩)], .slice Au2 (i2 + 1) cu2, _, by omega, by go_num, rfl, HSN, Lib.hid (by rw [HQ2.out, List.map_append, List.append_assoc]; rfl), Lib.hid (by rw [List.length_append, HPS.out]; rfl), Lib.hid rfl, ?_⟩
                    rw [cellsSM_add, rowsSM_add]
                    show St w0 w (.row _ _ _ _ (cellsSM ps ++ [.int .i64 Rr, .int .i64 Cc, .slice Aw xs.length cw, .int .i64 Rr, .int .i64 Cc, .slice Av xs.length cv]) :: _ :: _ :: ((rowsSM ps ++ [.row 3 1 (.slice Aw xs.length cw) rs.length (ints rs), .row 3 1 (.slice Av xs.length cv) zs.length (ints zs)]) ++ rowsSL qs))
                    rw [HL1.out, HL2.out]
                    exact T
                  case measure => simp [intOf]; omega
                · obtain rfl : i2 = m := by omega
                  have hq := HQ.out
                  rw [List.drop_of_length_le (Nat.le_of_eq HM.out), splitMs, List.append_nil] at hq
                  have HQE := Lib.hid hq
                  clear hq
                  go_upto_region 20 with fail
                  clear f2
                  go_wp2_with (first | (refine wpList_litY rfl S _ _ rfl 105 Tryz.underlying56 infoSLy _ _ rfl ?_; clear F S; intro g w L hM S; replace HL := qNm HL hM; clear hM; have F := qFc HL S) | (refine wpList_append_boxB rfl S _ _ _ rfl 105 _ 2 32 Tryz.underlying56 infoSLy rfl (by omega) _ _ _ _ rfl qAt (by omega) _ _ _ _ _ _ rfl qAt rfl rfl rfl rfl ?_; clear F S; intro u w L hM S; replace HL := qNm HL hM; clear hM; have F := qFc HL S))
                  go_roundw
                  case rel =>
                    rw [HL.out] at S
                    have T := (S.sub (.cons _ (.cons_cons _ (.cons _ (.refl _))))).perm (sp_perm2 _ _ _ _)
                    refine ⟨j + 1, q2, _, qs ++ [(.slice Au i2 cu, kind, ps)], _, by omega, by go_num, rfl, rfl, HS, Lib.hid ?_, Lib.hid (by rw [List.length_append, HPL.out]; rfl), Lib.hid rfl, ?_⟩
                    · rw [HJ2.out, HQE.out, List.map_append, List.append_assoc]
                      rfl
                    · have e1 : cellsSL (qs ++ [(Value.slice Au i2 cu, kind, ps)]) = cellsSL qs ++ [.int .i64 kind, .slice Au i2 cu] := by
                        rw [cellsSL_add]; rfl
                      have e2 : rowsSL (qs ++ [(Value.slice Au i2 cu, kind, ps)]) = rowsSL qs ++ (.row 32 6 (.slice Au i2 cu) i2 (cellsSM ps) :: rowsSM ps) := by
                        rw [rowsSL_add]
                        show rowsSL qs ++ (entsSM (.slice Au i2 cu) ps ++ []) = _
                        rw [List.append_nil]
                        unfold entsSM
                        rw [HPS.out]
                      rw [e1, e2]
                      exact T
                  case measure => simp [intOf]; omega
            · obtain rfl : j = k := by omega
              have hj := HJ.out
              rw [List.drop_of_length_le (Nat.le_of_eq HN.out), splitLs, List.append_nil] at hj
              injection hj with e1 e2
              subst e1 e2
              go_wp2
              refine ret2 rfl (show _ = _ from rfl) (show _ = _ from rfl) rfl ?_
              rw [HL.out] at S
              refine ⟨_, qs, rfl, rfl, ?_⟩
              unfold entsSL
              rw [HPL.out]
              exact St.rebaseS HBB.out S
      · obtain ⟨rfl, rfl⟩ : js = [] ∧ z = 0 := by
          have := HJ.out
          rw [splitRes_bad (by rw [HN.out, decide_eq_false h4]; rfl)] at this
          injection this with e1 e2
          exact ⟨e1.symm, e2.symm⟩
        go_wp2_with (first | (refine wpList_empty rfl S _ rfl 105 Tryz.underlying56 infoSLy ?_; clear F S; intro g w L hM S; replace HL := qNm HL hM; clear hM; have F := qFc HL S))
        refine ret2 rfl (show _ = _ from rfl) (show _ = _ from rfl) rfl ?_
        rw [HL.out] at S
        first | exact ⟨_, [], rfl, rfl, St.rebaseS HBB.out (S.sub (.cons_cons _ (List.nil_sublist _)))⟩ | exact ⟨_, rfl, St.rebaseS HBB.out (S.sub (.cons_cons _ (List.nil_sublist _)))⟩
end
section
def SLyFew (l : SLy) : Prop := l.ws.length ≤ 3 ∧ ∀ m ∈ l.ws, m.a.xs.length ≤ 25 ∧ m.b.xs.length ≤ 25
theorem splitMs_few : ∀ (ms : List Mx) (s : Int), (∀ m ∈ ms, m.xs.length ≤ 25) → (splitMs ms s).1.length = ms.length ∧ ∀ x ∈ (splitMs ms s).1, x.a.xs.length ≤ 25 ∧ x.b.xs.length ≤ 25
  | [], _, _ => ⟨rfl, fun x hx => by cases hx⟩
  | m :: ms, s, h => by
    obtain ⟨h1, h2⟩ := splitMs_few ms (seedAt s m.xs.length) (fun x hx => h x (List.mem_cons_of_mem _ hx))
    have h3 := h m List.mem_cons_self
    refine ⟨congrArg (· + 1) h1, fun x hx => ?_⟩
    rcases List.mem_cons.1 (show x ∈ splitMx m s :: (splitMs ms (seedAt s m.xs.length)).1 from hx) with rfl | hx
    · refine ⟨?_, ?_⟩
      · show (rndTo s m.xs.length).length ≤ 25
        rw [rndTo_length]; exact h3
      · show (tab m.xs.length _).length ≤ 25
        rw [tab_length]; exact h3
    · exact h2 x hx
theorem splitLs_few : ∀ (ls : List Ly) (s : Int), (∀ l ∈ ls, l.ok = true) → (splitLs ls s).1.length = ls.length ∧ ∀ x ∈ (splitLs ls s).1, SLyFew x
  | [], _, _ => ⟨rfl, fun x hx => by cases hx⟩
  | l :: ls, s, h => by
    obtain ⟨h1, h2⟩ := splitLs_few ls (splitMs l.ws s).2 (fun x hx => h x (List.mem_cons_of_mem _ hx))
    obtain ⟨h3, h4⟩ := Ly.ok_ms (h l List.mem_cons_self)
    refine ⟨congrArg (· + 1) h1, fun x hx => ?_⟩
    rcases List.mem_cons.1 (show x ∈ splitLy l s :: (splitLs ls (splitMs l.ws s).2).1 from hx) with rfl | hx
    · obtain ⟨h5, h6⟩ := splitMs_few l.ws s (fun m hm => by
        obtain ⟨_, _, _, _, _, _, _, _, h7, _⟩ := mx_nat (h4 m hm)
        exact h7)
      exact ⟨by show (splitMs l.ws s).1.length ≤ 3; omega, h6⟩
    · exact h2 x hx
theorem splitRes_few {ls : List Ly} {s z : Int} {js : List SLy} (h : splitRes ls s = (js, z)) : js.length ≤ 4 ∧ ∀ l ∈ js, SLyFew l := by
  unfold splitRes at h
  split at h
  · rename_i hc
    rw [Bool.and_eq_true, Bool.and_eq_true, decide_eq_true_eq] at hc
    obtain ⟨h1, h2⟩ := splitLs_few ls s (fun l hl => List.all_eq_true.1 hc.1.2 l hl)
    rw [h] at h1 h2
    exact ⟨by have := hc.1.1; dsimp only at h1; omega, h2⟩
  · injection h with h _
    subst h
    exact ⟨by simp, fun l hl => by cases hl⟩
end
section
theorem fill66 (C : Array Value) (hC : C.size = 12) (a b c d e f a' b' c' d' e' f' : Value) : Instr.fill (fun i => some (i * 6, 6)) C [(0, .agg #[a, b, c, d, e, f]), (1, .agg #[a', b', c', d', e', f'])] = some #[a, b, c, d, e, f, a', b', c', d', e', f'] := by
  obtain ⟨l⟩ := C
  match l, hC with
  | [_, _, _, _, _, _, _, _, _, _, _, _], _ => simp [Instr.fill, Value.cells]
section
variable {P : Program} {w0 w : World} {a : Act} {L : List Ent} {o : Oper} {ops : Array Oper} {rest : List Oper} {Q : Exit → Act → World → Prop}
theorem wpList_lit66 (hgd : o.guard = none) (S : St w0 w L) (t : TypeId) (x y : Operand) (ho : o.op = .buildSlice t 2 #[(0, x), (1, y)])
    (e : TypeId) (ht : P.underlying t = some (.slice e)) {z : Value} {bytes : Nat} (hi : (P.info? e).map (fun i => (i.zero, i.size, i.bytes)) = some (some z, 6, bytes))
    (c0 c1 c2 c3 c4 c5 d0 d1 d2 d3 d4 d5 : Value) (hx : a.eval x = .agg #[c0, c1, c2, c3, c4, c5]) (hy : a.eval y = .agg #[d0, d1, d2, d3, d4, d5])
    (h : ∀ g w' M, M = .box g e [c0, c1, c2, c3, c4, c5, d0, d1, d2, d3, d4, d5] :: L → St w0 w' M → wpList P ops Q rest (a.put o.dst (.slice (some ⟨g, 0, none⟩) 2 2)) w') : wpList P ops Q (o :: rest) a w :=
  wpList_litS hgd S t 2 _ ho e ht hi #[c0, c1, c2, c3, c4, c5, d0, d1, d2, d3, d4, d5] (fun C hC => by
    show Instr.fill _ C [(0, a.eval x), (1, a.eval y)] = _
    rw [hx, hy]; exact fill66 C hC _ _ _ _ _ _ _ _ _ _ _ _) (by omega) (by omega) h
end
def SLFew (q : Value × Int × SMsO) : Prop := SLyFew (slyO q)
def DrawsSLs (R : List Ent) (g : Nat) (v : Value) (k : Int) (w0 : World) (e : Ending) (w' : World) : Prop :=
  ∃ (u : Value) (qs : SLsO) (k' : Int), e = .returned u ∧ k ≤ k' ∧ k' ≤ k + 30000 ∧ qs.length ≤ 5 ∧ (∀ q ∈ qs, SLFew q) ∧ St w0 w' (.box g 143 [v, .int .i64 k'] :: .row 105 2 u qs.length (cellsSL qs) :: (rowsSL qs ++ R))
theorem dq_perm (X : List Ent) (rd l : Ent) (A R : List Ent) : (X ++ (rd :: l :: (A ++ R))).Perm (rd :: l :: ((A ++ X) ++ R)) := by
  rw [List.append_assoc]
  exact (List.perm_append_comm_assoc X [rd, l] (A ++ R)).trans (((List.perm_append_comm_assoc X A R).cons l).cons rd)
theorem slfew_add {qs : SLsO} {q : Value × Int × SMsO} (h : ∀ q ∈ qs, SLFew q) (hq : SLFew q) : ∀ x ∈ qs ++ [q], SLFew x := by
  intro x hx
  rcases List.mem_append.1 hx with h1 | h1
  · exact h x h1
  · rw [List.mem_singleton.1 h1]; exact hq
def zsm : Value × Value × SMx := (.slice none 0 0, .slice none 0 0, ⟨⟨0, 0, []⟩, ⟨0, 0, []⟩⟩)
def two2 : Value × Int × SMsO := (.slice none 0 0, 2, [])
theorem few_nil (k : Int) : SLFew (.slice none 0 0, k, []) := ⟨by simp [slyO], fun m hm => by cases hm⟩
theorem lyfew_small {q : Value × Int × MsO} (h : LyFew q) : LySmall 1048576 (lyO q) := by
  obtain ⟨h1, h2⟩ := h
  refine ⟨by show (q.2.2.map Prod.snd).length ≤ _; rw [List.length_map]; omega, fun m hm => ?_⟩
  obtain ⟨p, hp, rfl⟩ := List.mem_map.1 (show m ∈ q.2.2.map Prod.snd from hm)
  have := h2 p hp
  omega
theorem lsmall_of {qs : LsO} (h : ∀ q ∈ qs, LyFew q) : ∀ l ∈ qs.map lyO, LySmall 1048576 l := by
  intro l hl
  obtain ⟨q, hq, rfl⟩ := List.mem_map.1 hl
  exact lyfew_small (h q hq)
theorem sees_mid {w0 w : World} {L R : List Ent} {rd : Ent} {u : Value} {qs : LsO} (S : St w0 w L) (HL : Hid (L = rd :: .row 51 2 u qs.length (cellsL qs) :: (rowsL qs ++ R))) : SeesLs w u (qs.map lyO) := by
  refine sees_ls S ?_
  rw [HL.out]
  intro e he
  rcases List.mem_cons.1 (show e ∈ Ent.row 51 2 u qs.length (cellsL qs) :: rowsL qs from he) with rfl | h1
  · exact List.mem_cons_of_mem _ List.mem_cons_self
  · exact List.mem_cons_of_mem _ (List.mem_cons_of_mem _ (List.mem_append_left _ h1))
theorem sl_add {qs : SLsO} {u : Value} {kd : Int} {ps : SMsO} : rowsSL (qs ++ [(u, kd, ps)]) = rowsSL qs ++ (.row 32 6 u ps.length (cellsSM ps) :: rowsSM ps) := by
  rw [rowsSL_add]
  show rowsSL qs ++ (entsSM u ps ++ []) = _
  rw [List.append_nil]
  rfl
theorem rows_two : ∀ n : Nat, rowsSL (List.replicate n two2) = List.replicate n (.row 32 6 (.slice none 0 0) 0 [])
  | 0 => rfl
  | n + 1 => by
    rw [List.replicate_succ, List.replicate_succ, ← rows_two n]
    rfl
theorem C_l20SharedNet (R : List Ent) (gr : Nat) (v : Value) (k n : Int) (A0 B : Nat) (w0 w1 : World) (hAB : (1 ≤ A0 ∧ A0 ≤ 3) ∧ 1 ≤ B ∧ B ≤ 3) (hn : 0 ≤ n) (S0 : St w0 w1 (.box gr 143 [v, .int .i64 k] :: R)) (hB : Bytes w0 v) (hk : 0 ≤ k ∧ k ≤ 200000000) :
    Calls Tryz.prog 71 #[.pointer (some ⟨gr, 0, none⟩), .int .i64 A0, .int .i64 B, .int .i64 n] w1 (DrawsSLs R gr v k w0) := by
  have HB := Lib.hid hB
  obtain ⟨k1, k2⟩ := hk
  obtain ⟨⟨A1, A2⟩, B1, B2⟩ := hAB
  clear hB
  obtain ⟨L, HL, S⟩ := st_name S0
  clear S0
  replace HL := Lib.hid HL
  have F := factsAll HL S
  simp only [factsOf, cellsFrom, and_true, true_and, Nat.reduceAdd] at F
  go_enter Tryz.func71, Tryz.ntmps71
  go_upto_region 2 with (first | ((go_at_call 115; refine (C_l20Net _ _ _ _ _ _ _ w0 _ ⟨⟨by omega, by omega⟩, by omega, by omega⟩ (by omega) (S.front qAt) HB.out ⟨by omega, by omega⟩).mono ?_; rintro e w ⟨u2, qn, k3, rfl, hk3, hk4, hql, hfw, T0⟩; obtain ⟨L, hM, T⟩ := st_name T0; clear T0; clear F S; (try rw [HL.out] at hM); clear HL; (try simp only [List.eraseIdx_cons_zero, List.eraseIdx_cons_succ] at hM); have HL := Lib.hid hM; clear hM; have S := T; clear T; have F := qFc HL S); have HFW := Lib.hid hfw; clear hfw; obtain ⟨A3, c3, rfl, hk5, hm5⟩ := qSl HL S 1) | ((go_at_call 66; refine (C_l20Seed _ _ _ _ _ w0 _ (S.front qAt) HB.out ⟨by omega, by omega⟩).mono ?_; rintro e w ⟨y, k4, rfl, hk1, hk2, T0⟩; obtain ⟨L, hM, T⟩ := st_name T0; clear T0; clear F S; (try rw [HL.out] at hM); clear HL; (try simp only [List.eraseIdx_cons_zero, List.eraseIdx_cons_succ] at hM); have HL := Lib.hid hM; clear hM; have S := T; clear T; have F := qFc HL S)) | (obtain ⟨js, z, hj⟩ : ∃ js z, splitRes (qn.map lyO) y = (js, z) := ⟨_, _, rfl⟩; go_at_call 114; refine (C_spec_SplitNet _ (qn.map lyO) y z js _ (sees_mid S HL) (by rw [List.length_map]; omega) (lsmall_of HFW.out) hj).mono ?_; rintro e w ⟨u3, qs, rfl, hq, T0⟩; have HJF := Lib.hid (splitRes_few hj); have HQ := Lib.hid hq; clear hj hq; rw [HL.out] at S; have T := ((S.sub (.cons_cons _ (.cons _ (List.sublist_append_right _ _)))).call T0).perm List.perm_middle; have T' : St w0 w (_ :: .row 105 2 u3 qs.length (cellsSL qs) :: (rowsSL qs ++ R)) := T; clear S HL F T0 T; have S := T'; clear T'; obtain ⟨L, hM, T⟩ := st_name S; clear S; have S := T; clear T; have HL := Lib.hid hM; clear hM; have F := qFc HL S))
  have hql4 : qs.length ≤ 4 := by rw [← List.length_map (f := slyO), HQ.out]; exact HJF.out.1
  have HFS : Hid (∀ q ∈ qs, SLFew q) := Lib.hid fun q hq => HJF.out.2 _ (HQ.out ▸ List.mem_map_of_mem hq)
  obtain ⟨Ao, co, rfl, hco, hmo⟩ := qSl HL S 1
  obtain ⟨ln, hln⟩ : ∃ ln, qs.length = ln := ⟨_, rfl⟩
  rw [hln] at hql4 HL hco
  (try rw [hln])
  (try rw [hln] at F)
  have HLN := Lib.hid hln
  clear hln HQ HJF
  go_wp2_with (first | (go_at_call 65; refine (C_odd _ _ _ _ _ w0 _ (S.front qAt) HB.out ⟨by omega, by omega⟩).mono ?_; rintro e w ⟨y, k', rfl, hk1, hk2, T0⟩; obtain ⟨L, hM, T⟩ := st_name T0; clear T0; clear F S; (try rw [HL.out] at hM); clear HL; (try simp only [List.eraseIdx_cons_zero, List.eraseIdx_cons_succ] at hM); have HL := Lib.hid hM; clear hM; have S := T; clear T; have F := qFc HL S) | ((go_at_call 63; refine (C_pick _ _ _ _ _ w0 _ (S.front qAt) HB.out ⟨by omega, by omega⟩).mono ?_; rintro e w ⟨yp, rfl, hy0, T0⟩; obtain ⟨L, hM, T⟩ := st_name T0; clear T0; clear F S; (try rw [HL.out] at hM); clear HL; (try simp only [List.eraseIdx_cons_zero, List.eraseIdx_cons_succ] at hM); have HL := Lib.hid hM; clear hM; have S := T; clear T; have F := qFc HL S); have hyp := hy0 (by omega); clear hy0) | (refine wpList_lit rfl S _ _ _ rfl 3 Tryz.underlying23 infoInt (by simp [Act.eval]) (by simp [Act.eval, Value.oneCell']) rfl rfl rfl ?_; clear F S; intro g w L hM S; replace HL := qNm HL hM; clear hM; have F := qFc HL S) | (first | (refine wpList_load_lit rfl S _ _ rfl Tryz.underlying3 1 _ _ _ _ (atOf HL rfl) rfl (by simp) (by simp; omega) ?_; intro q hq; have hq := id hq; simp only [List.mem_cons, Value.int.injEq, true_and, List.not_mem_nil, or_false] at hq) | (refine wpList_load_lit rfl S _ _ rfl Tryz.underlying3 2 _ _ _ _ (atOf HL rfl) rfl (by simp) (by simp; omega) ?_; intro q hq; have hq := id hq; simp only [List.mem_cons, Value.int.injEq, true_and, List.not_mem_nil, or_false] at hq) | (refine wpList_load_lit rfl S _ _ rfl Tryz.underlying3 3 _ _ _ _ (atOf HL rfl) rfl (by simp) (by simp; omega) ?_; intro q hq; have hq := id hq; simp only [List.mem_cons, Value.int.injEq, true_and, List.not_mem_nil, or_false] at hq)) | (refine wpList_litY rfl S _ _ rfl 105 Tryz.underlying56 infoSLy _ _ rfl ?_; clear F S; intro g w L hM S; replace HL := qNm HL hM; clear hM; have F := qFc HL S) | (refine wpList_lit66 rfl S _ _ _ rfl 32 Tryz.underlying35 infoSMx _ _ _ _ _ _ _ _ _ _ _ _ rfl rfl ?_; clear F S; intro gz w L hM S; replace HL := qNm HL hM; clear hM; have F := qFc HL S) | (refine wpList_append_boxB rfl S _ _ _ rfl 105 _ 2 32 Tryz.underlying56 infoSLy rfl (by omega) _ _ _ _ rfl qAt (by omega) _ _ _ _ _ _ rfl qAt rfl rfl rfl rfl ?_; clear F S; intro u w L hM S; replace HL := qNm HL hM; clear hM; have F := qFc HL S) | (at_make; refine wpList_make rfl S _ _ _ rfl 105 _ 2 32 Tryz.underlying56 infoSLy _ 5 rfl rfl rfl (by omega) (by simp only [maxLen]; omega) ?_; clear F S; intro g w L hM S; replace HL := qNm HL hM; clear hM; have F := qFc HL S))
  · go_ret
    rw [HL.out] at S
    have T := ((S.sub (.cons _ (.cons_cons _ (.cons _ (.refl _))))).nilRow 32 6).perm (dq_perm [_] _ _ _ _)
    refine ⟨_, qs ++ [(.slice none 0 0, q, [])], k' + 1 + 1, rfl, by omega, by omega, by rw [List.length_append, HLN.out]; simp; omega, slfew_add HFS.out (few_nil _), ?_⟩
    rw [sl_add, cellsSL_add, List.length_append, HLN.out]
    exact T
  · go_ret
    rw [HL.out] at S
    have T := ((((((S.sub (.cons _ (.refl _))).asRow (size := 6) (n := 2) (p := 0) rfl rfl (by simp [maxLen])).nilRow 3 1).nilRow 3 1).nilRow 3 1).nilRow 3 1).perm ((List.perm_append_comm_assoc [_, _, _, _] [_] _).trans (dq_perm [_, _, _, _, _] _ _ _ _))
    refine ⟨_, qs ++ [(.slice (some ⟨gz, 0, none⟩) 2 2, 1, [zsm, zsm])], k' + 1, rfl, by omega, by omega, by rw [List.length_append, HLN.out]; simp; omega, slfew_add HFS.out ?_, ?_⟩
    rotate_left
    · rw [sl_add, cellsSL_add, List.length_append, HLN.out]
      exact T
    · refine ⟨by show [smO zsm, smO zsm].length ≤ 3; simp, fun m hm => ?_⟩
      have hm' : m ∈ [smO zsm, smO zsm] := hm
      simp only [List.mem_cons, List.not_mem_nil, or_false, or_self] at hm'
      subst hm'
      exact ⟨Nat.zero_le _, Nat.zero_le _⟩
  · rw [HL.out] at S
    have e5 : (madeCells #[Value.int .i64 0, Value.slice none 0 0] 10).toList = cellsSL (List.replicate 5 slz) := made_sls 5
    rw [e5] at S
    have T := S.sub (.cons_cons _ (.cons_cons _ (.cons _ (List.sublist_append_right _ _))))
    clear S HL F e5
    have S := T
    clear T
    obtain ⟨L, hM, T⟩ := st_name S; clear S; have S := T; clear T; have HL := Lib.hid hM; clear hM; have F := qFc HL S
    go_loopw [11] (fun i wr => ∃ (j : Nat) (L : List Ent), j ≤ 5 ∧ i = .int .i64 j ∧ Hid (L = .row 105 2 (.slice (some ⟨g, 0, none⟩) 5 5) 5 (cellsSL (List.replicate j two2) ++ cellsSL (List.replicate (5 - j) slz)) :: .box gr 143 [v, .int .i64 (k' + 1)] :: R) ∧ St w0 wr L) (fun i _ => 5 - (intOf i).toNat)
    case atStart => exact ⟨0, L, Nat.zero_le _, rfl, Lib.hid HL.out, S⟩
    case round =>
      clear F HL S
      obtain ⟨j, L, hj, rfl, HL, S⟩ := hrel
      have F : True := trivial
      by_cases hlt : j < 5
      · have hcl := cellsSL_len (List.replicate j two2)
        rw [List.length_replicate] at hcl
        have HC := Lib.hid hcl
        have hrep : List.replicate (5 - j) slz = slz :: List.replicate (5 - (j + 1)) slz := by
          rw [show 5 - j = (5 - (j + 1)) + 1 by omega]; rfl
        rw [HL.out, hrep] at S
        obtain ⟨R5, hR⟩ : ∃ R5, cellsSL (List.replicate (5 - (j + 1)) slz) = R5 := ⟨_, rfl⟩
        have HR := Lib.hid hR
        obtain ⟨Z, hZ⟩ : ∃ Z, cellsSL (List.replicate j two2) = Z := ⟨_, rfl⟩
        have HZ := Lib.hid hZ
        have T : St w0 wr (.row 105 2 (.slice (some ⟨g, 0, none⟩) 5 5) 5 (cellsSL (List.replicate j two2) ++ (.int .i64 0 :: .slice none 0 0 :: cellsSL (List.replicate (5 - (j + 1)) slz))) :: .box gr 143 [v, .int .i64 (k' + 1)] :: R) := S
        rw [hR, hZ] at T
        rw [hZ] at HC
        clear S HL F hrep hcl hR hZ
        have S := T
        clear T
        obtain ⟨L, hM, T⟩ := st_name S; clear S; have S := T; clear T; have HL := Lib.hid hM; clear hM; have F := qFc HL S
        have hj2 : j * 2 + 2 ≤ 5 * 2 := by omega
        go_upto_region 7 with (first | (refine wpList_store_rowS rfl S _ _ _ rfl 0 _ _ _ _ _ _ _ (atOf HL rfl) rfl ([.int .i64 2]) rfl (by kernel_rfl) rfl (show _ + 1 ≤ _ from by omega) ?_; clear F S; intro w L hM S; replace HL := qNr HL hM; clear hM; have F := qFc HL S))
        rw [sp_one HC.out] at HL
        go_wp2
        go_roundw
        case rel =>
          rw [HL.out] at S
          refine ⟨j + 1, _, by omega, by go_num, Lib.hid rfl, ?_⟩
          have e : cellsSL (List.replicate (j + 1) two2) ++ cellsSL (List.replicate (5 - (j + 1)) slz) = Z ++ (.int .i64 2 :: .slice none 0 0 :: R5) := by
            rw [List.replicate_succ', cellsSL_add, HZ.out, HR.out, List.append_assoc]; rfl
          rw [e]
          exact S
        case measure => simp [intOf]; omega
      · obtain rfl : j = 5 := by omega
        go_wp2
        go_ret
        rw [HL.out] at S
        have S2 : St w0 wr (.row 105 2 (.slice (some ⟨g, 0, none⟩) 5 5) 5 (cellsSL (List.replicate 5 two2) ++ []) :: .box gr 143 [v, .int .i64 (k' + 1)] :: R) := S
        rw [List.append_nil] at S2
        have T := ((((((S2.perm (.swap _ _ _)).nilRow 32 6).nilRow 32 6).nilRow 32 6).nilRow 32 6).nilRow 32 6).perm (dq_perm [_, _, _, _, _] _ _ [] _)
        refine ⟨_, List.replicate 5 two2, k' + 1, rfl, by omega, by omega, by simp, fun q hq => ?_, ?_⟩
        · rw [List.eq_of_mem_replicate hq]; exact few_nil 2
        · rw [rows_two]
          exact T
  · go_ret
    rw [HL.out] at S
    refine ⟨_, qs, k', rfl, by omega, by omega, by rw [HLN.out]; omega, HFS.out, ?_⟩
    rw [HLN.out]
    exact S
end
end Go.Proofs.YtjgfjfjboimgdaaGreat
