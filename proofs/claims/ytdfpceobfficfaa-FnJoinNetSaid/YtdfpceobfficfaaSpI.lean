/-
  Contract: SplitNet, the program's.
-/
import Derived.Test.YtdfpceobfficfaaSpA
import Derived.Test.YtdfpceobfficfaaLyZ
import Derived.Test.YtdfpceobfficfaaRegB
namespace Go.Proofs.Ytdfpceobfficfaa
set_option linter.unusedSimpArgs false
set_option linter.unusedVariables false
set_option linter.unusedSectionVars false
open Go Go.RowKit
set_option maxHeartbeats 8000000
set_option maxRecDepth 20000
/-- A shared layer of zeros, as make lays it. -/
def slz : Value × Int × SMsO := (.slice none 0 0, 0, [])
theorem made_sls : ∀ n : Nat, (madeCells #[Value.int .i64 0, Value.slice none 0 0] (n * 2)).toList = cellsSL (List.replicate n slz)
  | 0 => by simp [madeCells, cellsSL]
  | n + 1 => by
    have e : (madeCells #[Value.int .i64 0, Value.slice none 0 0] ((n + 1) * 2)).toList = (madeCells #[Value.int .i64 0, Value.slice none 0 0] (n * 2)).toList ++ [.int .i64 0, .slice none 0 0] := by
      unfold madeCells
      simp only [Array.toList_map, Array.toList_range]
      rw [show (n + 1) * 2 = n * 2 + 1 + 1 by omega, List.range_succ, List.range_succ, List.map_append, List.map_append]
      have h1 : n * 2 % 2 = 0 := by omega
      have h2 : (n * 2 + 1) % 2 = 1 := by omega
      simp [h1, h2]
    rw [e, made_sls n, List.replicate_succ', cellsSL_add]
    rfl
theorem sp_at {A R : List Value} {x y : Value} {k : Nat} (h : A.length = k * 2) : (A ++ (x :: y :: R))[k * 2]? = some x ∧ (A ++ (x :: y :: R))[k * 2 + 1]? = some y := by
  constructor
  · rw [List.getElem?_append_right (by omega), h, Nat.sub_self]; rfl
  · rw [List.getElem?_append_right (by omega), h, Nat.add_sub_cancel_left]; rfl
theorem sp_one {A R : List Value} {x y z : Value} {k : Nat} (h : A.length = k * 2) : splice (A ++ (x :: y :: R)) (k * 2) [z] = A ++ (z :: y :: R) := by
  rw [splice_app _ _ _ _ h]
  simp
theorem sp_two {A R : List Value} {x y z : Value} {k : Nat} (h : A.length = k * 2) : splice (A ++ (x :: y :: R)) (k * 2 + 1) [z] = A ++ (x :: z :: R) := by
  have e : A ++ (x :: y :: R) = (A ++ [x]) ++ (y :: R) := by simp
  rw [e, splice_app _ _ _ _ (by rw [List.length_append, h]; rfl)]
  simp
theorem sp_perm (m v u l : Ent) (A B : List Ent) : (m :: v :: u :: l :: (A ++ B)).Perm (m :: l :: ((A ++ [u, v]) ++ B)) := by
  rw [List.append_assoc]
  refine .cons _ ?_
  refine (List.Perm.swap _ _ _).trans ?_
  exact (List.perm_append_comm_assoc [u, v] [l] (A ++ B)).trans ((List.perm_append_comm_assoc [u, v] A B).cons l)
theorem sp_perm2 (m l : Ent) (A B : List Ent) : (m :: l :: (A ++ B)).Perm (l :: (B ++ (m :: A))) :=
  (List.Perm.swap _ _ _).trans (.cons _ (List.perm_append_comm (l₁ := m :: A) (l₂ := B)))
theorem mx_nat {m : Mx} (h : m.ok = true) : ∃ R C : Nat, m = ⟨R, C, m.xs⟩ ∧ 1 ≤ R ∧ R ≤ 5 ∧ 1 ≤ C ∧ C ≤ 5 ∧ R * C = m.xs.length ∧ m.xs.length ≤ 25 ∧ m.xs.all rv = true := by
  obtain ⟨R, C, N, e, r1, r2, c1, c2, n1, n2, n3, n4⟩ := Mx.ok_nat h
  exact ⟨R, C, e, r1, r2, c1, c2, by omega, by omega, n4⟩
theorem all_at {ls : List Ly} {k : Nat} {l : Ly} (h : ls.all Ly.ok = true) (hk : ls[k]? = some l) : l.ok = true := List.all_eq_true.1 h l (List.mem_of_getElem? hk)
namespace RB
theorem C_impl_SplitNet (v : Value) (ls : List Ly) (s z : Int) (js : List SLy) (w0 : World) (h : SeesLs w0 v ls) (hj : splitRes ls s = (js, z)) :
    Calls Try.prog 15 #[v, .int .i64 s] w0 fun e w => ∃ u qs, e = .returned (.tuple #[u, .int .i64 z]) ∧ qs.map slyO = js ∧ St w0 w (entsSL u qs) := by
  have H := Lib.hid h
  obtain ⟨A, cap, rfl, hcap, hmax, hA⟩ := h
  obtain ⟨n, hn⟩ : ∃ n, ls.length = n := ⟨_, rfl⟩
  cases hb : (decide (ls.length ≤ 4) && ls.all Ly.ok) with
  | false =>
    obtain ⟨rfl, rfl⟩ : js = [] ∧ z = 0 := by
      rw [splitRes_bad hb] at hj
      injection hj with e1 e2
      exact ⟨e1.symm, e2.symm⟩
    have HB := Lib.hid hb
    clear hA hb hj hn
    obtain ⟨L, HL, S⟩ := st_start w0; have F : True := trivial
    go_enter Try.func15, Try.ntmps15
    go_wp2_with (first | (go_at_call 44; refine (C_layersOfOwn _ ls false w0 _ S.below (by exact H.out) HB.out).mono ?_; rintro e w ⟨u, cs, rfl, _, _, _, T0⟩; replace S := S.grow T0.below; clear T0))
    refine ret2 rfl (show _ = _ from rfl) (show _ = _ from rfl) rfl ?_
    exact ⟨_, [], rfl, rfl, (S.nilRow 36 2).sub (.cons_cons _ (List.nil_sublist _))⟩
  | true =>
    cases hs : seedOk s with
    | false =>
      obtain ⟨rfl, rfl⟩ : js = [] ∧ z = 0 := by
        rw [splitRes_seed hs] at hj
        injection hj with e1 e2
        exact ⟨e1.symm, e2.symm⟩
      have CV := fun w => C_seedValid s w
      rw [hs] at CV
      have HB := Lib.hid hb
      clear hA hb hj hn hs
      obtain ⟨L, HL, S⟩ := st_start w0; have F : True := trivial
      go_enter Try.func15, Try.ntmps15
      go_wp2_with (first | (go_at_call 44; refine (C_layersOfOwn _ ls true w0 _ S.below (by exact H.out) HB.out).mono ?_; rintro e w ⟨u, cs, rfl, _, _, _, T0⟩; replace S := S.grow T0.below; clear T0) | (go_at_call 45; refine (CV _).mono ?_; rintro e w' ⟨rfl, rfl⟩))
      refine ret2 rfl (show _ = _ from rfl) (show _ = _ from rfl) rfl ?_
      exact ⟨_, [], rfl, rfl, (S.nilRow 36 2).sub (.cons_cons _ (List.nil_sublist _))⟩
    | true =>
      have HJ := Lib.hid ((splitRes_ok hb hs).symm.trans hj)
      have CV := fun w => C_seedValid s w
      rw [hs] at CV
      have HB := Lib.hid hb
      have HS := Lib.hid hs
      rw [Bool.and_eq_true, decide_eq_true_eq] at hb
      have HALL := Lib.hid hb.2
      have h4 := hb.1
      rw [hn] at hcap hA h4 H
      (try rw [hn])
      have HN := Lib.hid hn
      have HA := Lib.hid hA
      unfold maxLen at hmax
      clear hA hn hj hb hs
      obtain ⟨L, HL, S⟩ := st_start w0; have F : True := trivial
      go_enter Try.func15, Try.ntmps15
      go_upto_region 4 with (first | (go_at_call 44; refine (C_layersOfOwn _ ls true w0 _ S.below (by exact H.out) HB.out).mono ?_; rintro e w ⟨u, cs, rfl, hcs, _, _, T0⟩; obtain ⟨Al, cl, rfl, _, _⟩ := T0.sliceOf (p := 0) (show At _ 0 _ from rfl); rw [(hcs rfl).trans HN.out]; clear hcs; replace S := S.grow T0.below; clear T0) | (go_at_call 45; refine (CV _).mono ?_; rintro e w' ⟨rfl, rfl⟩))
      go_upto_region 5 with (at_make; refine wpList_make rfl S _ _ _ rfl 36 _ 2 32 Try.underlying23 infoSLy _ n rfl rfl rfl (by omega) (by simp only [maxLen]; omega) ?_; intro g w L hM T; clear F S; (try rw [HL.out] at hM); clear HL; (try simp [Act.put, Act.eval, Value.cells, splice] at hM); have HL := Lib.hid hM; clear hM; have S := T; clear T; have F := factsAll HL S; (try simp only [factsOf, cellsFrom, and_true, true_and, Nat.reduceAdd] at F))
      rw [made_sls] at HL
      go_wp2
      go_loopw [31, 1] (fun i sd wr => ∃ (k : Nat) (q : Int) (qs : SLsO) (L : List Ent), k ≤ n ∧ i = .int .i64 k ∧ sd = .int .i64 q ∧ Hid (seedOk q = true) ∧ Hid ((js, z) = (qs.map slyO ++ (splitLs (ls.drop k) q).1, (splitLs (ls.drop k) q).2)) ∧ Hid (qs.length = k) ∧ Hid (L = .row 36 2 (.slice (some ⟨g, 0, none⟩) n n) n (cellsSL qs ++ cellsSL (List.replicate (n - k) slz)) :: rowsSL qs) ∧ St w0 wr L) (fun i _ _ => n - (intOf i).toNat)
      case atStart => exact ⟨0, s, [], L, Nat.zero_le _, rfl, rfl, HS, Lib.hid (by rw [List.drop_zero]; exact HJ.out.symm), Lib.hid rfl, Lib.hid HL.out, S⟩
      case round =>
        clear F HL S HS HJ CV
        obtain ⟨k, q, qs, L, hk, rfl, rfl, HS, HJ, HPL, HL, S⟩ := hrel
        have F : True := trivial
        by_cases hlt : k < n
        · obtain ⟨b0, off, rfl, hb, hc⟩ := HA.out (by omega)
          obtain ⟨l, hm⟩ := some_at HN.out hlt
          have hlok := all_at HALL.out hm
          have hj := HJ.out
          rw [drop_at hm] at hj
          obtain ⟨kind, ms⟩ := l
          obtain ⟨hml, hmok⟩ := Ly.ok_ms hlok
          obtain ⟨x, c1, c2, hu⟩ := hc k _ hm
          dsimp only at c1 c2 hu hml hmok
          have HMOK := Lib.hid hmok
          have HJ2 : Hid ((js, z) = (qs.map slyO ++ ⟨kind, (splitMs ms q).1⟩ :: (splitLs (ls.drop (k + 1)) (splitMs ms q).2).1, (splitLs (ls.drop (k + 1)) (splitMs ms q).2).2)) := Lib.hid hj
          obtain ⟨m, hmm⟩ : ∃ m, ms.length = m := ⟨_, rfl⟩
          obtain ⟨A', cap', rfl, hcap', hmax', hA'⟩ := hu
          rw [hmm] at hcap' hA' hml c2
          have HM := Lib.hid hmm
          have HA' := Lib.hid hA'
          have hcl := cellsSL_len qs
          rw [HPL.out] at hcl
          have HC := Lib.hid hcl
          have hrep : List.replicate (n - k) slz = slz :: List.replicate (n - (k + 1)) slz := by
            rw [show n - k = (n - (k + 1)) + 1 by omega]; rfl
          rw [HL.out, hrep] at S
          have T : St w0 wr (.row 36 2 (.slice (some ⟨g, 0, none⟩) n n) n (cellsSL qs ++ (.int .i64 0 :: .slice none 0 0 :: cellsSL (List.replicate (n - (k + 1)) slz))) :: rowsSL qs) := S
          clear S HL F hrep hA' hmm hc hm hcl hj hmok hlok HJ
          obtain ⟨R, hR⟩ : ∃ R, cellsSL (List.replicate (n - (k + 1)) slz) = R := ⟨_, rfl⟩
          rw [hR] at T
          have HR := Lib.hid hR
          clear hR
          have S := T
          clear T
          obtain ⟨L, hM, T⟩ := st_name S; clear S; have S := T; clear T; have HL := Lib.hid hM; clear hM; have F := factsAll HL S; (try simp only [factsOf, cellsFrom, and_true, true_and, Nat.reduceAdd] at F)
          have f1 := fun w' (S' : St w0 w' L) => (S'.below.cell (p := ⟨b0, off + k * 2, none⟩) hb).trans c1
          have f2 := fun w' (S' : St w0 w' L) => (S'.below.cell (p := ⟨b0, off + k * 2 + 1, none⟩) hb).trans c2
          clear c1 c2
          have hk2 : k * 2 + 2 ≤ n * 2 := by omega
          unfold maxLen at hmax'
          go_upto_region 8 with (first | (refine wpList_alloc rfl S 33 _ rfl zLy ?_; intro gl w L hM T; clear F S; (try rw [HL.out] at hM); clear HL; (try simp [Act.put, Act.eval, Value.cells, splice] at hM); have HL := Lib.hid hM; clear hM; have S := T; clear T; have F := factsAll HL S; (try simp only [factsOf, cellsFrom, and_true, true_and, Nat.reduceAdd] at F)) | (refine wpList_store_box rfl S _ _ _ rfl 0 _ _ _ _ (atOf HL rfl) rfl _ rfl (by kernel_rfl) rfl rfl ?_; intro w L hM T; clear F S; (try rw [HL.out] at hM); clear HL; (try simp [Act.put, Act.eval, Value.cells, splice] at hM); have HL := Lib.hid hM; clear hM; have S := T; clear T; have F := factsAll HL S; (try simp only [factsOf, cellsFrom, and_true, true_and, Nat.reduceAdd] at F)))
          clear f1 f2
          go_upto_region 9 with (first | (refine wpList_store_rowS rfl S _ _ _ rfl 1 _ _ _ _ _ _ _ (atOf HL rfl) rfl ([.int .i64 kind]) rfl (by kernel_rfl) rfl (show _ + 1 ≤ _ from by omega) ?_; intro w L hM T; clear F S; (try rw [HL.out] at hM); clear HL; (try simp [Act.put, Act.eval, Value.cells] at hM); have HL := Lib.hid hM; clear hM; have S := T; clear T; have F := factsAll HL S; (try simp only [factsOf, cellsFrom, and_true, true_and, Nat.reduceAdd] at F)))
          rw [sp_one HC.out] at HL
          go_wp2
          rw [HL.out] at S
          have T := (S.sub (.cons _ (.refl _))).nilRow 67 6
          clear S HL F
          have S := T
          clear T
          obtain ⟨L, hM, T⟩ := st_name S; clear S; have S := T; clear T; have HL := Lib.hid hM; clear hM; have F := factsAll HL S; (try simp only [factsOf, cellsFrom, and_true, true_and, Nat.reduceAdd] at F)
          go_loopw [45, 1] (fun i sd wr => ∃ (j : Nat) (q2 : Int) (ps : SMsO) (u : Value) (L : List Ent), j ≤ m ∧ i = .int .i64 j ∧ sd = .int .i64 q2 ∧ Hid (seedOk q2 = true) ∧ Hid (splitMs ms q = (ps.map smO ++ (splitMs (ms.drop j) q2).1, (splitMs (ms.drop j) q2).2)) ∧ Hid (ps.length = j) ∧ Hid (L = .row 67 6 u j (cellsSM ps) :: .row 36 2 (.slice (some ⟨g, 0, none⟩) n n) n (cellsSL qs ++ (.int .i64 kind :: u :: R)) :: (rowsSM ps ++ rowsSL qs)) ∧ St w0 wr L) (fun i _ _ => m - (intOf i).toNat)
          case atStart => exact ⟨0, q, [], _, L, Nat.zero_le _, rfl, rfl, HS, Lib.hid rfl, Lib.hid rfl, Lib.hid HL.out, S⟩
          case round =>
            clear F HL S HS
            obtain ⟨j, q2, ps, u, L, hj, rfl, rfl, HS, HQ, HPS, HL, S⟩ := hrel
            have F : True := trivial
            obtain ⟨Au, cu, rfl, hcu, hmu⟩ := S.sliceOf (atOf HL (p := 0) rfl)
            by_cases hlt2 : j < m
            · obtain ⟨b', off', rfl, hb', hc'⟩ := HA'.out (by omega)
              obtain ⟨mm, hm2⟩ := some_at HM.out hlt2
              obtain ⟨x1, d1, d2, d3, hx1⟩ := hc' j _ hm2
              have hq := HQ.out
              rw [drop_at hm2] at hq
              obtain ⟨Rr, Cc, e0, r1, r2, e1, e2, hRC, hN25, hall⟩ := mx_nat (HMOK.out _ (List.mem_of_getElem? hm2))
              obtain ⟨r, c, xs⟩ := mm
              dsimp only at d1 d2 d3 hx1 hRC hN25 hall
              obtain ⟨rfl, rfl⟩ : r = Rr ∧ c = Cc := by injection e0 with e1 e2 _; exact ⟨e1, e2⟩
              have H1 := Lib.hid hx1
              obtain ⟨-, A1, k1, rfl, hk1, hm1, -⟩ := hx1
              have CJ := fun w h => C_impl_SplitMatrix Rr Cc xs.length xs (.slice A1 xs.length k1) q2 w h HS.out r1 r2 e1 e2 hRC rfl hN25 hall
              have HQ2 : Hid (splitMs ms q = (ps.map smO ++ ⟨⟨Rr, Cc, rndTo q2 xs.length⟩, ⟨Rr, Cc, tab xs.length (subV xs (rndTo q2 xs.length))⟩⟩ :: (splitMs (ms.drop (j + 1)) (seedAt q2 xs.length)).1, (splitMs (ms.drop (j + 1)) (seedAt q2 xs.length)).2)) := Lib.hid hq
              have HSN := Lib.hid (seedOk_at HS.out xs.length)
              have hl1 := rndTo_length q2 xs.length
              have hl2 : (tab xs.length (subV xs (rndTo q2 xs.length))).length = xs.length := tab_length _ _
              generalize tab xs.length (subV xs (rndTo q2 xs.length)) = zs at CJ HQ2 hl2
              generalize rndTo q2 xs.length = rs at CJ HQ2 hl1
              generalize seedAt q2 xs.length = q3 at CJ HQ2 HSN
              have HL1 := Lib.hid hl1
              have HL2 := Lib.hid hl2
              clear hq hRC hall hl1 hl2 e0 HQ
              have g1 := fun w' (S' : St w0 w' L) => (S'.below.cell (p := ⟨b', off' + j * 3, none⟩) hb').trans d1
              have g2 := fun w' (S' : St w0 w' L) => (S'.below.cell (p := ⟨b', off' + j * 3 + 1, none⟩) hb').trans d2
              have g3 := fun w' (S' : St w0 w' L) => (S'.below.cell (p := ⟨b', off' + j * 3 + 2, none⟩) hb').trans d3
              clear hc' d1 d2 d3 hm2
              have X0 : Hid ((cellsSL qs ++ (.int .i64 kind :: .slice Au j cu :: R))[k * 2 + 1]? = some (.slice Au j cu)) := Lib.hid (sp_at HC.out).2
              go_upto_region 12 with (first | (refine wpList_alloc rfl S 55 _ rfl zMx ?_; intro gm w L hM T; clear F S; (try rw [HL.out] at hM); clear HL; (try simp [Act.put, Act.eval, Value.cells, splice] at hM); have HL := Lib.hid hM; clear hM; have S := T; clear T; have F := factsAll HL S; (try simp only [factsOf, cellsFrom, and_true, true_and, Nat.reduceAdd] at F)) | (refine wpList_store_box rfl S _ _ _ rfl 0 _ _ _ _ (atOf HL rfl) rfl _ rfl (by kernel_rfl) rfl rfl ?_; intro w L hM T; clear F S; (try rw [HL.out] at hM); clear HL; (try simp [Act.put, Act.eval, Value.cells, splice] at hM); have HL := Lib.hid hM; clear hM; have S := T; clear T; have F := factsAll HL S; (try simp only [factsOf, cellsFrom, and_true, true_and, Nat.reduceAdd] at F)))
              clear g1 g2 g3
              go_upto_region 14 with (first | (refine wpList_alloc rfl S 67 _ rfl zSMx ?_; intro gs w L hM T; clear F S; (try rw [HL.out] at hM); clear HL; (try simp [Act.put, Act.eval, Value.cells, splice] at hM); have HL := Lib.hid hM; clear hM; have S := T; clear T; have F := factsAll HL S; (try simp only [factsOf, cellsFrom, and_true, true_and, Nat.reduceAdd] at F)) | (refine wpList_store_box rfl S _ _ _ rfl 2 _ _ _ _ (atOf HL rfl) rfl _ rfl (by kernel_rfl) rfl rfl ?_; intro w L hM T; clear F S; (try rw [HL.out] at hM); clear HL; (try simp [Act.put, Act.eval, Value.cells, splice] at hM); have HL := Lib.hid hM; clear hM; have S := T; clear T; have F := factsAll HL S; (try simp only [factsOf, cellsFrom, and_true, true_and, Nat.reduceAdd] at F)) | (go_at_call 46; refine (CJ _ (H1.out.at_ S)).mono ?_; rintro e w ⟨u1, v1, rfl, T0⟩; obtain ⟨L, hM, T⟩ := st_name (S.call T0); clear T0; clear F S; (try rw [HL.out] at hM); clear HL; (try simp [Act.put, Act.eval, Value.cells, splice] at hM); have HL := Lib.hid hM; clear hM; have S := T; clear T; have F := factsAll HL S; (try simp only [factsOf, cellsFrom, and_true, true_and, Nat.reduceAdd] at F); obtain ⟨Av, cv, rfl, hcv, hmv⟩ := S.sliceOf (atOf HL (p := 0) rfl); obtain ⟨Aw, cw, rfl, hcw, hmw⟩ := S.sliceOf (atOf HL (p := 1) rfl)))
              (have T := S.front (atOf HL (p := 4) rfl); rw [HL.out] at T; simp only [List.eraseIdx_cons_succ, List.eraseIdx_cons_zero] at T)
              clear S HL F
              have S := T
              clear T
              obtain ⟨L, hM, T⟩ := st_name S; clear S; have S := T; clear T; have HL := Lib.hid hM; clear hM; have F := factsAll HL S; (try simp only [factsOf, cellsFrom, and_true, true_and, Nat.reduceAdd] at F)
              have hT := congrArg List.tail HL.out; simp only [List.tail_cons] at hT; obtain ⟨L1, hL1⟩ : ∃ M, M = L.tail := ⟨_, rfl⟩; rw [← hL1] at hT; have HL0 := Lib.hid hT; have S1 := S.sub (List.tail_sublist L); rw [← hL1] at S1; have F0 := factsAll HL0 S1; (try simp only [factsOf, cellsFrom, and_true, true_and, Nat.reduceAdd] at F0); clear S1 hL1 hT; (have f0 := fun w' (S' : St w0 w' L1) => (S'.rowCell (p := 4) (atOf HL0 rfl) (k * 2 + 1) (by omega)).trans X0.out); refine wp_region_tree (S := fun w' => St w0 w' L1) (.calm 0 (.calm 1 (.calm 2 (.calm 3 (.calm 4 (.calm 5 (.calm 6 (.calm 7 (.act 8 (.act 9 (.calm 10 (.calm 11 (.act 12 .fin .stop))) .stop) .stop))))))))) (by kernel_rfl) (by kernel_rfl) (by kernel_rfl) (by intro c a d v w h; cases d <;> exact h) ?_; replace S := S.drew
              repeat (first | (first | (refine tree_calm (v := ?_) ?_ rfl (by decide +kernel) rfl ?_ ?_; rotate_left; (focus (first | exact S | (refine S.sub (subL HL0 HL ?_); (repeat (first | exact List.Sublist.refl _ | apply List.Sublist.cons)); done))); (focus (intro w' hS'; (try dsimp only at hS'); go_simp; try rfl)); (try simp only [Act.put, List.setIfInBounds_toArray, List.set_cons_zero, List.set_cons_succ])) | (refine tree_any (v := ?_) ?_ rfl rfl ?_ ?_; rotate_left; (focus (first | exact S | (refine S.sub (subL HL0 HL ?_); (repeat (first | exact List.Sublist.refl _ | apply List.Sublist.cons)); done))); (focus (intro w'; go_simp; try rfl)); (try simp only [Act.put, List.setIfInBounds_toArray, List.set_cons_zero, List.set_cons_succ]))) | (refine tree_skip ?_ rfl rfl ?_; (focus (first | exact S | (refine S.sub (subL HL0 HL ?_); (repeat (first | exact List.Sublist.refl _ | apply List.Sublist.cons)); done))); (try simp only [Act.put, List.setIfInBounds_toArray, List.set_cons_zero, List.set_cons_succ])) | (refine tree_act rfl rfl ?_ tree_stop; intro K hK; (refine wp_litZ S _ _ rfl 67 Try.underlying34 infoSMx _ _ _ _ _ _ rfl ?_; intro g w L hM T; clear F S; (try rw [HL.out] at hM); clear HL; (try simp [Act.put, Act.eval, Value.cells, splice] at hM); have HL := Lib.hid hM; clear hM; have S := T; clear T; have F := factsAll HL S; (try simp only [factsOf, cellsFrom, and_true, true_and, Nat.reduceAdd] at F)); (refine hK.out _ _ ?_ ?_; (focus (first | exact fun _ => S | (intro _; refine S.sub (subL HL0 HL ?_); (repeat (first | exact List.Sublist.refl _ | apply List.Sublist.cons)); done) | (refine sink_no ?_; kernel_rfl))); clear hK K; (try simp only [Act.put, List.setIfInBounds_toArray, List.set_cons_zero, List.set_cons_succ]))) | (refine tree_act rfl rfl ?_ tree_stop; intro K hK; (refine wp_append_boxB S _ _ _ rfl 67 _ 6 80 Try.underlying34 infoSMx rfl (by omega) 1 _ _ _ rfl (atOf HL rfl) (by omega) 0 _ _ _ _ _ rfl (atOf HL rfl) rfl rfl rfl rfl ?_; intro u w L hM T; clear F S; (try rw [HL.out] at hM); clear HL; (try simp [Act.put, Act.eval, Value.cells, splice] at hM); have HL := Lib.hid hM; clear hM; have S := T; clear T; have F := factsAll HL S; (try simp only [factsOf, cellsFrom, and_true, true_and, Nat.reduceAdd] at F); obtain ⟨Au2, cu2, rfl, hcu2, hmu2⟩ := S.sliceOf (atOf HL (p := 1) rfl)); (refine hK.out _ _ ?_ ?_; (focus (first | exact fun _ => S | (intro _; refine S.sub (subL HL0 HL ?_); (repeat (first | exact List.Sublist.refl _ | apply List.Sublist.cons)); done) | (refine sink_no ?_; kernel_rfl))); clear hK K; (try simp only [Act.put, List.setIfInBounds_toArray, List.set_cons_zero, List.set_cons_succ]))) | (refine tree_act rfl rfl ?_ tree_stop; intro K hK; (refine wp_store_rowS S _ _ _ rfl 6 _ _ _ _ _ _ _ (atOf HL rfl) rfl ([.slice Au2 (j + 1) cu2]) rfl (by kernel_rfl) rfl (show _ + 1 ≤ _ from by omega) ?_; intro w L hM T; clear F S; (try rw [HL.out] at hM); clear HL; (try simp [Act.put, Act.eval, Value.cells] at hM); have HL := Lib.hid hM; clear hM; have S := T; clear T; have F := factsAll HL S; (try simp only [factsOf, cellsFrom, and_true, true_and, Nat.reduceAdd] at F)); (refine hK.out _ _ ?_ ?_; (focus (first | exact fun _ => S | (intro _; refine S.sub (subL HL0 HL ?_); (repeat (first | exact List.Sublist.refl _ | apply List.Sublist.cons)); done) | (refine sink_no ?_; kernel_rfl))); clear hK K; (try simp only [Act.put, List.setIfInBounds_toArray, List.set_cons_zero, List.set_cons_succ]))) | (refine tree_act rfl rfl ?_ tree_stop; intro K hK; go_wp2_with (first | fail); (refine hK.out _ _ ?_ ?_; (focus (first | exact fun _ => S | (intro _; refine S.sub (subL HL0 HL ?_); (repeat (first | exact List.Sublist.refl _ | apply List.Sublist.cons)); done) | (refine sink_no ?_; kernel_rfl))); clear hK K; (try simp only [Act.put, List.setIfInBounds_toArray, List.set_cons_zero, List.set_cons_succ]))))
              refine tree_fin ?_
              clear HL0 F0 f0
              go_wp2
              go_roundw
              case rel =>
                rw [HL.out, sp_two HC.out] at S
                have T := (S.sub (.cons _ (.cons_cons _ (.cons_cons _ (.cons_cons _ (.cons _ (.cons _ (.refl _)))))))).perm (sp_perm _ _ _ _ _ _)
                refine ⟨j + 1, q3, ps ++ [(.slice Aw xs.length cw, .slice Av xs.length cv, ⟨⟨Rr, Cc, rs⟩, ⟨Rr, Cc, zs⟩⟩)], .slice Au2 (j + 1) cu2, _, by omega, by go_num, rfl, HSN, Lib.hid (by rw [HQ2.out, List.map_append, List.append_assoc]; rfl), Lib.hid (by rw [List.length_append, HPS.out]; rfl), Lib.hid rfl, ?_⟩
                rw [cellsSM_add, rowsSM_add]
                show St w0 w (.row _ _ _ _ (cellsSM ps ++ [.int .i64 Rr, .int .i64 Cc, .slice Aw xs.length cw, .int .i64 Rr, .int .i64 Cc, .slice Av xs.length cv]) :: _ :: ((rowsSM ps ++ [.row 3 1 (.slice Aw xs.length cw) rs.length (ints rs), .row 3 1 (.slice Av xs.length cv) zs.length (ints zs)]) ++ rowsSL qs))
                rw [HL1.out, HL2.out]
                exact T
              case measure => simp [intOf]; omega
            · obtain rfl : j = m := by omega
              have hq := HQ.out
              rw [List.drop_of_length_le (Nat.le_of_eq HM.out), splitMs, List.append_nil] at hq
              have HQE := Lib.hid hq
              clear hq
              go_wp2
              go_roundw
              case rel =>
                rw [HL.out] at S
                have T := S.perm (sp_perm2 _ _ _ _)
                refine ⟨k + 1, q2, qs ++ [(.slice Au j cu, kind, ps)], _, by omega, by go_num, rfl, HS, Lib.hid ?_, Lib.hid (by rw [List.length_append, HPL.out]; rfl), Lib.hid rfl, ?_⟩
                · rw [HJ2.out, HQE.out, List.map_append, List.append_assoc]
                  rfl
                · have e1 : cellsSL (qs ++ [(Value.slice Au j cu, kind, ps)]) ++ cellsSL (List.replicate (n - (k + 1)) slz) = cellsSL qs ++ (.int .i64 kind :: .slice Au j cu :: R) := by
                    rw [HR.out, cellsSL_add, List.append_assoc]; rfl
                  have e2 : rowsSL (qs ++ [(Value.slice Au j cu, kind, ps)]) = rowsSL qs ++ (.row 67 6 (.slice Au j cu) j (cellsSM ps) :: rowsSM ps) := by
                    rw [rowsSL_add]
                    show rowsSL qs ++ (entsSM (.slice Au j cu) ps ++ []) = _
                    rw [List.append_nil]
                    unfold entsSM
                    rw [HPS.out]
                  rw [e1, e2]
                  exact T
              case measure => simp [intOf]; omega
        · obtain rfl : k = n := by omega
          have hj := HJ.out
          rw [List.drop_of_length_le (Nat.le_of_eq HN.out), splitLs, List.append_nil] at hj
          injection hj with e1 e2
          subst e1 e2
          go_wp2
          refine ret2 rfl (show _ = _ from rfl) (show _ = _ from rfl) rfl ?_
          rw [HL.out, Nat.sub_self] at S
          have T : St w0 wr (.row 36 2 (.slice (some ⟨g, 0, none⟩) k k) k (cellsSL qs ++ []) :: rowsSL qs) := S
          rw [List.append_nil] at T
          refine ⟨_, qs, rfl, rfl, ?_⟩
          unfold entsSL
          rw [HPL.out]
          exact T
end RB
end Go.Proofs.Ytdfpceobfficfaa
