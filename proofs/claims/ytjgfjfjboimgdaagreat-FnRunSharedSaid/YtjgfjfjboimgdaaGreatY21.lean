/- SmI -/
import Derived.Test.YtjgfjfjboimgdaaGreatY20
namespace Go.Proofs.YtjgfjfjboimgdaaGreat
set_option linter.unusedSimpArgs false
set_option linter.unusedVariables false
set_option linter.unusedSectionVars false
open Go Go.RowKit
set_option maxHeartbeats 8000000
set_option maxRecDepth 20000
section
attribute [local irreducible] wpList Oper.wp Calls
theorem all_bad {f : SMx → Bool} {ws : List SMx} {q : Nat} {m : SMx} {b : Bool} (h : ws[q]? = some m) (hf : f m = false) (hb : ws.all f = b) : b = false := by
  cases b with
  | false => rfl
  | true => rw [List.all_eq_true.1 hb m (List.mem_of_getElem? h)] at hf; cases hf
theorem C_smixFits (r c : Int) (xs : List Int) (r' c' : Int) (ys : List Int) (u v t : Value) (ws : List SMx) (b : Bool) (w0 : World) (hw : SeesSMs w0 t ws) (hu : Ints w0 u xs) (hv : Ints w0 v ys)
    (hb : (decide (ws.length = 3) && likeMx ⟨r, c, xs⟩ ⟨r', c', ys⟩ && ws.all (mixFitS ⟨⟨r, c, xs⟩, ⟨r', c', ys⟩⟩)) = b) :
    Calls Tryz.prog 51 #[t, .agg #[.int .i64 r, .int .i64 c, u, .int .i64 r', .int .i64 c', v]] w0 fun e w => e = .returned (.bool b) ∧ Below w0.heap.size w0 w := by
  have HU := Lib.hid hu
  have HV := Lib.hid hv
  obtain ⟨A, cap, rfl, hcap, hmax, hA⟩ := hw
  clear hu hv
  obtain ⟨n, hn⟩ : ∃ n, ws.length = n := ⟨_, rfl⟩
  rw [hn] at hb hcap hA ⊢
  unfold maxLen at hmax
  by_cases h3 : n = 3
  · subst h3
    rw [decide_eq_true rfl, Bool.true_and] at hb
    cases hl : likeMx ⟨r, c, xs⟩ ⟨r', c', ys⟩ with
    | false =>
      rw [hl, Bool.false_and] at hb
      subst hb
      have HLK := Lib.hid hl
      clear hl hA
      obtain ⟨L, HL, S⟩ := st_start w0; have F : True := trivial
      go_enter Tryz.func51, Tryz.ntmps51
      go_wp2_with (first | (refine qbx HL S ?_; clear F S HL; intro g w L HL S F) | refine qLb6 S ?_ | (go_at_call 72; refine qGr S (C_impl_SharedMatrixValid _ _ _ _ _ _ _ _ _ _ (by exact HU.out.at_ S) (by exact HV.out.at_ S) (by exact HLK.out)) ?_; clear S; intro w S))
      go_ret
      exact ⟨rfl, S.below⟩
    | true =>
      rw [hl, Bool.true_and] at hb
      have HLK := Lib.hid hl
      have HB := Lib.hid hb
      obtain ⟨bl, off, rfl, hbl, hcl⟩ := hA (by omega)
      have HC := Lib.hid hcl
      have HN := Lib.hid hn
      clear hl hA hb hcl hn
      obtain ⟨L, HL, S⟩ := st_start w0; have F : True := trivial
      go_enter Tryz.func51, Tryz.ntmps51
      go_upto_region 3 with (first | (refine qbd 3 HL S ?_; clear F S HL; intro gx w L HL S F) | refine qLb6 S ?_ | (go_at_call 72; refine qGr S (C_impl_SharedMatrixValid _ _ _ _ _ _ _ _ _ _ (by exact HU.out.at_ S) (by exact HV.out.at_ S) (by exact HLK.out)) ?_; clear S; intro w S))
      go_wp2
      go_loopw [17] (fun i wr => ∃ (q : Nat) (L : List Ent), q ≤ 3 ∧ i = .int .i64 q ∧ Hid (∀ j m, j < q → ws[j]? = some m → mixFitS ⟨⟨r, c, xs⟩, ⟨r', c', ys⟩⟩ m = true) ∧ Hid (L = [.box gx 32 [.int .i64 r, .int .i64 c, u, .int .i64 r', .int .i64 c', v]]) ∧ St w0 wr L) (fun i _ => 3 - (intOf i).toNat)
      case atStart => exact ⟨0, L, Nat.zero_le _, rfl, Lib.hid (fun j m h => absurd h (by omega)), HL, S⟩
      case round =>
        clear F HL S
        obtain ⟨q, L, hq, rfl, HI, HL, S⟩ := hrel
        have F := factsAll HL S
        simp only [factsOf, cellsFrom, and_true, true_and, Nat.reduceAdd] at F
        by_cases hlt : q < 3
        · obtain ⟨m, hm⟩ := some_at HN.out hlt
          have HM := Lib.hid hm
          obtain ⟨u2, v2, e1, e2, e3, e4, e5, e6, hu2, hv2⟩ := HC.out q m hm
          have HU2 := Lib.hid hu2
          have HV2 := Lib.hid hv2
          replace e1 := (S.below.cell (p := ⟨bl, off + q * 6, none⟩) hbl).trans e1
          replace e2 := (S.below.cell (p := ⟨bl, off + q * 6 + 1, none⟩) hbl).trans e2
          replace e3 := (S.below.cell (p := ⟨bl, off + q * 6 + 2, none⟩) hbl).trans e3
          replace e4 := (S.below.cell (p := ⟨bl, off + q * 6 + 3, none⟩) hbl).trans e4
          replace e5 := (S.below.cell (p := ⟨bl, off + q * 6 + 4, none⟩) hbl).trans e5
          replace e6 := (S.below.cell (p := ⟨bl, off + q * 6 + 5, none⟩) hbl).trans e6
          obtain ⟨_, Au, cu, rfl, _, _, _⟩ := hu2
          obtain ⟨_, Av, cv, rfl, _, _, _⟩ := hv2
          obtain ⟨⟨mr, mc, us⟩, ⟨mr', mc', vs⟩⟩ := m
          dsimp only at e1 e2 e3 e4 e5 e6 HU2 HV2
          have hfit : mixFitS ⟨⟨r, c, xs⟩, ⟨r', c', ys⟩⟩ ⟨⟨mr, mc, us⟩, ⟨mr', mc', vs⟩⟩ = (likeMx ⟨mr, mc, us⟩ ⟨mr', mc', vs⟩ && decide (mr = mc) && decide (mc = c)) := rfl
          cases h1 : likeMx ⟨mr, mc, us⟩ ⟨mr', mc', vs⟩ with
          | false =>
            rw [h1] at hfit
            obtain rfl : b = false := all_bad hm hfit HB.out
            have H1 := Lib.hid h1
            clear hm hfit h1
            go_wp2_with (first | (refine qal HL S zSMx ?_; clear F S HL; intro g6 w L HL S F) | (refine qst HL S 0 ?_; clear F S HL; intro w L HL S F) | refine qLb6 S ?_ | (go_at_call 72; refine qGr S (C_impl_SharedMatrixValid _ _ _ _ _ _ _ _ _ _ (by exact HU2.out.at_ S) (by exact HV2.out.at_ S) (by exact H1.out)) ?_; clear S; intro w S))
            go_ret
            exact ⟨rfl, S.below⟩
          | true =>
          have H1 := Lib.hid h1
          rw [h1, Bool.true_and] at hfit
          by_cases h2 : mr = mc
          · subst h2
            rw [decide_eq_true rfl, Bool.true_and] at hfit
            by_cases h4 : mr = c
            · subst h4
              rw [decide_eq_true rfl] at hfit
              have HFT := Lib.hid hfit
              clear hm hfit h1
              go_wp2_with (first | (refine qal HL S zSMx ?_; clear F S HL; intro g6 w L HL S F) | (refine qst HL S 0 ?_; clear F S HL; intro w L HL S F) | refine qLb6 S ?_ | (go_at_call 72; refine qGr S (C_impl_SharedMatrixValid _ _ _ _ _ _ _ _ _ _ (by exact HU2.out.at_ S) (by exact HV2.out.at_ S) (by exact H1.out)) ?_; clear S; intro w S))
              go_roundw
              case rel =>
                refine ⟨q + 1, _, by omega, by go_num, Lib.hid (fun j m hj hjm => ?_), Lib.hid rfl, (by rw [HL.out] at S; exact S.sel (by exact qSel))⟩
                rcases Nat.lt_or_ge j q with h5 | h5
                · exact HI.out j m h5 hjm
                · obtain rfl : j = q := by omega
                  rw [HM.out] at hjm
                  injection hjm with hjm
                  rw [← hjm]
                  exact HFT.out
              case measure => simp [intOf]; omega
            · rw [decide_eq_false h4] at hfit
              obtain rfl : b = false := all_bad hm hfit HB.out
              have hne : (mr == c) = false := by rw [beq_eq_false_iff_ne]; exact h4
              clear hm hfit h1
              go_wp2_with (first | (refine qal HL S zSMx ?_; clear F S HL; intro g6 w L HL S F) | (refine qst HL S 0 ?_; clear F S HL; intro w L HL S F) | refine qLb6 S ?_ | (go_at_call 72; refine qGr S (C_impl_SharedMatrixValid _ _ _ _ _ _ _ _ _ _ (by exact HU2.out.at_ S) (by exact HV2.out.at_ S) (by exact H1.out)) ?_; clear S; intro w S))
              go_ret
              exact ⟨rfl, S.below⟩
          · rw [decide_eq_false h2, Bool.false_and] at hfit
            obtain rfl : b = false := all_bad hm hfit HB.out
            have hne : (mr == mc) = false := by rw [beq_eq_false_iff_ne]; exact h2
            clear hm hfit h1
            go_wp2_with (first | (refine qal HL S zSMx ?_; clear F S HL; intro g6 w L HL S F) | (refine qst HL S 0 ?_; clear F S HL; intro w L HL S F) | refine qLb6 S ?_ | (go_at_call 72; refine qGr S (C_impl_SharedMatrixValid _ _ _ _ _ _ _ _ _ _ (by exact HU2.out.at_ S) (by exact HV2.out.at_ S) (by exact H1.out)) ?_; clear S; intro w S))
            go_ret
            exact ⟨rfl, S.below⟩
        · obtain rfl : q = 3 := by omega
          obtain rfl : b = true := by
            rw [← HB.out, List.all_eq_true]
            intro m hm
            obtain ⟨j, hj⟩ := List.mem_iff_getElem?.1 hm
            exact HI.out j m (by rw [← HN.out]; exact (List.getElem?_eq_some_iff.1 hj).1) hj
          go_wp2
          go_ret
          exact ⟨rfl, S.below⟩
  · rw [decide_eq_false h3, Bool.false_and, Bool.false_and] at hb
    subst hb
    have hne : ((n : Int) == 3) = false := by rw [beq_eq_false_iff_ne]; omega
    have hne' : ((n : Int) != 3) = true := by rw [bne_iff_ne]; omega
    clear hA
    obtain ⟨L, HL, S⟩ := st_start w0; have F : True := trivial
    go_enter Tryz.func51, Tryz.ntmps51
    go_wp2_with (first | (refine qbx HL S ?_; clear F S HL; intro g w L HL S F))
    go_ret
    exact ⟨rfl, S.below⟩
theorem C_each_Sums (m : SMx) (u v : Value) (w0 : World) (h : Ints w0 u m.a.xs) (h' : Ints w0 v m.b.xs) (hm : m.ok = true) :
    Calls Tryz.prog 56 #[.agg #[.int .i64 m.a.r, .int .i64 m.a.c, u, .int .i64 m.b.r, .int .i64 m.b.c, v], .func (.func 57) #[] #[]] w0 (MakesSMx w0 (sumsS m).a.r (sumsS m).a.c (sumsS m).a.xs (sumsS m).b.r (sumsS m).b.c (sumsS m).b.xs) := by
  obtain ⟨R, C, N, xs, ys, rfl, r1, r2, c1, c2, hRC, hN, hN', hN2, a1, a2⟩ := smx_nat hm
  dsimp only at h h'
  have CA := fun u w h => C_impl_RowSums R C xs u w h r1 r2 c1 c2 (by omega) a1
  have CB := fun u w h => C_impl_RowSums R C ys u w h r1 r2 c1 c2 (by omega) a2
  have e1 : sumsMx ⟨R, C, xs⟩ = ⟨R, 1, tab R (sumV xs C)⟩ := rfl
  have e2 : sumsMx ⟨R, C, ys⟩ = ⟨R, 1, tab R (sumV ys C)⟩ := rfl
  unfold sumsS
  dsimp only
  rw [e1, e2]
  dsimp only
  unfold MakesMx at CA CB
  unfold MakesSMx
  have H := Lib.hid h
  have H' := Lib.hid h'
  obtain ⟨_, A, cap, rfl, hcap, hmax, _⟩ := h
  obtain ⟨_, A2, cap2, rfl, hcap2, hmax2, _⟩ := h'
  generalize tab R (sumV xs C) = zs at *
  generalize tab R (sumV ys C) = zs' at *
  clear hm hRC hN hN' a1 a2 e1 e2
  obtain ⟨L, HL, S⟩ := st_start w0; have F : True := trivial
  go_enter Tryz.func56, Tryz.ntmps56
  go_wp2_with (first | (refine qbx HL S ?_; clear F S HL; intro g w L HL S F) | (refine qal HL S zSMx ?_; clear F S HL; intro g w L HL S F) | (refine qst HL S 0 ?_; clear F S HL; intro w L HL S F) | (refine qst HL S 1 ?_; clear F S HL; intro w L HL S F) | (refine qst HL S 2 ?_; clear F S HL; intro w L HL S F) | (refine qst HL S 3 ?_; clear F S HL; intro w L HL S F)  )
  have HL0 := HL; have F0 := F; refine wp_region_tree (S := fun w' => St w0 w' L) (qcs 0 3 (qcs 4 3 (.act 3 (.act 7 (.calm 8 (.act 9 .fin .stop)) .stop) .stop))) (by kernel_rfl) (by kernel_rfl) (by kernel_rfl) (by intro c a d v w h; cases d <;> exact h) ?_; dsimp only [qcs, Nat.reduceAdd]; replace S := S.drew
  repeat (first | refine qCa ?_ | refine qAn ?_ | refine qSk ?_ | (refine tree_act rfl rfl ?_ tree_stop; intro K hK; (refine qsw HL S 2 ?_; clear F S HL; intro w L HL S F); (refine qKo hK ?_; clear hK K)) | (refine tree_act rfl rfl ?_ tree_stop; intro K hK; go_wp2_with (first | (go_at_call 57; refine (CA _ _ (H.out.at_ S)).mono ?_; rintro e w ⟨u, rfl, T0⟩; have hX := qcl HL S T0; clear F S HL T0; obtain ⟨L, HL, S, F⟩ := hX; obtain ⟨A', cap', rfl, hcap', hmax'⟩ := qSl HL S 0) | (go_at_call 57; refine (CB _ _ (H'.out.at_ S)).mono ?_; rintro e w ⟨u, rfl, T0⟩; have hX := qcl HL S T0; clear F S HL T0; obtain ⟨L, HL, S, F⟩ := hX; obtain ⟨A', cap', rfl, hcap', hmax'⟩ := qSl HL S 0)); (refine qKo hK ?_; clear hK K)))
  refine tree_fin ?_
  go_wp2
  ((try simp only [Exit.inBlock, Exit.then]); refine ret1 rfl (resCell S HL 2 rfl rfl (by kernel_rfl)) rfl ?_)
  exact ⟨_, _, rfl, (by rw [HL.out] at S; exact S.sub (by repeat (first | exact .refl _ | exact List.nil_sublist _ | apply List.Sublist.cons_cons | apply List.Sublist.cons)))⟩
end
end Go.Proofs.YtjgfjfjboimgdaaGreat
