/- SmS -/
import Derived.Test.YtjgfjfjboimgdaaGreatY28
import Derived.Test.YtjgfjfjboimgdaaGreatY29
namespace Go.Proofs.YtjgfjfjboimgdaaGreat
set_option linter.unusedSimpArgs false
set_option linter.unusedVariables false
set_option linter.unusedSectionVars false
open Go Go.RowKit
set_option maxHeartbeats 8000000
set_option maxRecDepth 20000
section
set_option maxHeartbeats 0
attribute [local irreducible] wpList Oper.wp Calls
theorem scaleS_kind (x y : SMx) (s : Int) : (scaleS x y s).m.ok = true ∨ (scaleS x y s).m = SMx.zero := by
  cases h : scaleOk x y s with
  | false => rw [scaleS_not h]; exact .inr rfl
  | true =>
    simp only [scaleOk, Bool.and_eq_true, decide_eq_true_eq] at h
    obtain ⟨⟨⟨⟨h1, h2⟩, h3⟩, h4⟩, h5⟩ := h
    exact .inl (scaleS_good h1 h2 h3 h4 h5).ok
theorem C_sumsM (m : Mx) (u : Value) (w0 : World) (h : Ints w0 u m.xs) (hm : m.ok = true) : Calls Tryz.prog 48 #[.agg #[.int .i64 (m).r, .int .i64 (m).c, u]] w0 (MakesMx w0 (sumsMx m).r (sumsMx m).c (sumsMx m).xs) := by
  obtain ⟨R, C, e, r1, r2, c1, c2, h1, _, h2⟩ := mx_nat hm
  obtain ⟨r, c, xs⟩ := m
  simp only [Mx.mk.injEq, and_true] at e
  obtain ⟨rfl, rfl⟩ := e
  exact C_spec_RowSums R C xs u w0 h r1 r2 c1 c2 h1.symm h2
theorem threeSm {ps : SMsO} {a b c : SMx} (h : ps.map smO = [a, b, c]) : ∃ wa wb xa xb ya yb, ps = [(wa, wb, a), (xa, xb, b), (ya, yb, c)] := by
  match ps, h with
  | [(wa, wb, _), (xa, xb, _), (ya, yb, _)], h =>
    simp only [List.map_cons, List.map_nil, smO, List.cons.injEq, and_true] at h
    obtain ⟨rfl, rfl, rfl⟩ := h
    exact ⟨wa, wb, xa, xb, ya, yb, rfl⟩
theorem C_spec_SMix_good (a b c x : SMx) (s : Int) (t u v : Value) (w0 : World) (hw : SeesSMs w0 t [a, b, c]) (hu : Ints w0 u x.a.xs) (hv : Ints w0 v x.b.xs) (hok : mixOk [a, b, c] x s = true) :
    Calls Tryz.prog 11 #[t, .agg #[.int .i64 (x).a.r, .int .i64 (x).a.c, u, .int .i64 (x).b.r, .int .i64 (x).b.c, v], .int .i64 s] w0 (MakesScl w0 (mixS a b c x s)) := by
  unfold MakesScl
  obtain ⟨a', b', c', e0, hx, hs, ha, hb, hc, a1, a2, b1, b2, c1, c2, _⟩ := mixOk_parts hok
  simp only [List.cons.injEq, and_true] at e0
  obtain ⟨rfl, rfl, rfl⟩ := e0
  have gq := cut_good hx ha a1.symm hs
  have gk := cut_good hx hb b1.symm gq.seed
  have gv := cut_good hx hc c1.symm gk.seed
  have hz : mixS a b c x s = mixS a b c x s := rfl
  conv at hz => lhs; unfold mixS
  dsimp only at hz
  obtain ⟨zq, hzq⟩ : ∃ z, cutS x a s = z := ⟨_, rfl⟩
  rw [hzq] at hz gq gk gv
  obtain ⟨zk, hzk⟩ : ∃ z, cutS x b zq.last = z := ⟨_, rfl⟩
  rw [hzk] at hz gk gv
  obtain ⟨zv, hzv⟩ : ∃ z, cutS x c zk.last = z := ⟨_, rfl⟩
  rw [hzv] at hz gv
  obtain ⟨_, jx1, jx2, _⟩ := join_smx hx
  obtain ⟨_, ja1, ja2, _⟩ := join_smx ha
  obtain ⟨_, jb1, jb2, _⟩ := join_smx hb
  have q2 : zq.m.a.c = x.a.c := (gq.sides.2.trans ja2).trans a2
  have k2 : zk.m.a.c = x.a.c := (gk.sides.2.trans jb2).trans b2
  obtain ⟨tk, _, t1, _⟩ := turn_good gk.ok
  obtain ⟨zT, hzT⟩ : ∃ z, turnSMx zk.m = z := ⟨_, rfl⟩
  rw [hzT] at hz tk t1
  have gt := cut_good gq.ok tk (by rw [q2, t1, k2]) gv.seed
  obtain ⟨zt, hzt⟩ : ∃ z, cutS zq.m zT zv.last = z := ⟨_, rfl⟩
  rw [hzt] at hz gt
  have gg := map_good (k := 4) ⟨by omega, by omega⟩ gt.ok gt.seed
  obtain ⟨zg, hzg⟩ : ∃ z, mapS 4 zt.m zt.last = z := ⟨_, rfl⟩
  rw [hzg] at hz gg
  have gok : zg.m.a.ok = true ∧ zg.m.b.ok = true := by
    have := gg.ok
    simp only [SMx.ok, likeMx, Bool.and_eq_true] at this
    exact ⟨this.1.1.1, this.1.1.2⟩
  have CEA := fun u w h => C_sumsM zg.m.a u w h gok.1
  have CEB := fun u w h => C_sumsM zg.m.b u w h gok.2
  have esa : sumsMx zg.m.a = (sumsS zg.m).a := rfl
  have esb : sumsMx zg.m.b = (sumsS zg.m).b := rfl
  rw [esa] at CEA
  rw [esb] at CEB
  have uk := (sums_good gg.ok).1
  obtain ⟨zS, hzS⟩ : ∃ z, sumsS zg.m = z := ⟨_, rfl⟩
  rw [hzS] at hz CEA CEB uk
  obtain ⟨zn, hzn⟩ : ∃ z, mapS 5 zS zg.last = z := ⟨_, rfl⟩
  rw [hzn] at hz
  obtain ⟨zh, hzh⟩ : ∃ z, scaleS zg.m zn.m zn.last = z := ⟨_, rfl⟩
  rw [hzh] at hz
  obtain ⟨zj, hzj⟩ : ∃ z, mapS 1 zh.m zh.last = z := ⟨_, rfl⟩
  rw [hzj] at hz
  obtain ⟨zo, hzo⟩ : ∃ z, cutS zj.m zv.m zj.last = z := ⟨_, rfl⟩
  rw [hzo] at hz
  rw [← hz]
  dsimp only
  have fx := ok_few hx
  have fa := ok_few ha
  have fb := ok_few hb
  have fc := ok_few hc
  have fq := ok_few gq.ok
  have fk := ok_few gk.ok
  have fv := ok_few gv.ok
  have fT := ok_few tk
  have ft := ok_few gt.ok
  have fg := ok_few gg.ok
  have fS := ok_few uk
  have fn : zn.m.a.xs.length ≤ 25 ∧ zn.m.b.xs.length ≤ 25 := by rw [← hzn]; exact scd_few (mapS_kind _ _ _)
  have fh : zh.m.a.xs.length ≤ 25 ∧ zh.m.b.xs.length ≤ 25 := by rw [← hzh]; exact scd_few (scaleS_kind _ _ _)
  have fj : zj.m.a.xs.length ≤ 25 ∧ zj.m.b.xs.length ≤ 25 := by rw [← hzj]; exact scd_few (mapS_kind _ _ _)
  have o1 : zq.os.length ≤ 75 := by rw [← hzq]; exact cutS_few _ _ _
  have o2 : zk.os.length ≤ 75 := by rw [← hzk]; exact cutS_few _ _ _
  have o3 : zv.os.length ≤ 75 := by rw [← hzv]; exact cutS_few _ _ _
  have o4 : zt.os.length ≤ 75 := by rw [← hzt]; exact cutS_few _ _ _
  have o5 : zg.os.length ≤ 25 := by rw [← hzg]; exact mapS_few _ _ _
  have o6 : zn.os.length ≤ 25 := by rw [← hzn]; exact mapS_few _ _ _
  have o7 : zh.os.length ≤ 50 := by rw [← hzh]; exact scaleS_few _ _ _
  have o8 : zj.os.length ≤ 25 := by rw [← hzj]; exact mapS_few _ _ _
  have o9 : zo.os.length ≤ 75 := by rw [← hzo]; exact cutS_few _ _ _
  have C1 := fun u v p q w hu hv hp hq => C_l15Cut x a u v p q s zq w hu hv hp hq (by omega) (by omega) (by omega) (by omega) hzq
  have C2 := fun u v p q w hu hv hp hq => C_l15Cut x b u v p q zq.last zk w hu hv hp hq (by omega) (by omega) (by omega) (by omega) hzk
  have C3 := fun u v p q w hu hv hp hq => C_l15Cut x c u v p q zk.last zv w hu hv hp hq (by omega) (by omega) (by omega) (by omega) hzv
  have C4 := fun u v p q w hu hv hp hq => C_l15Cut zq.m zT u v p q zv.last zt w hu hv hp hq (by omega) (by omega) (by omega) (by omega) hzt
  have C5 := fun u v w hu hv => C_spec_MapShared 4 zt.m u v zt.last zg w hu hv (by omega) (by omega) hzg
  have C6 := fun u v w hu hv => C_spec_MapShared 5 zS u v zg.last zn w hu hv (by omega) (by omega) hzn
  have C7 := fun u v p q w hu hv hp hq => C_spec_ScaleShared zg.m.a.r zg.m.a.c zg.m.a.xs zg.m.b.r zg.m.b.c zg.m.b.xs u v zn.m.a.r zn.m.a.c zn.m.a.xs zn.m.b.r zn.m.b.c zn.m.b.xs p q zn.last zh w hu hv hp hq (by omega) (by omega) (by omega) (by omega) hzh
  have C8 := fun u v w hu hv => C_spec_MapShared 1 zh.m u v zh.last zj w hu hv (by omega) (by omega) hzj
  have C9 := fun u v p q w hu hv hp hq => C_l15Cut zj.m zv.m u v p q zj.last zo w hu hv hp hq (by omega) (by omega) (by omega) (by omega) hzo
  have CT := fun u v w h h' => C_spec_TurnShared zk.m.a.r zk.m.a.c zk.m.a.xs zk.m.b.r zk.m.b.c zk.m.b.xs u v zT w h h' (by omega) (by omega) hzT
  have CO := fun w h h' => C_l1OwnSharedMatrix x.a.r x.a.c x.a.xs x.b.r x.b.c x.b.xs u v w h h' (by omega) (by omega)
  have CW := fun w h => C_l1OwnSharedMatrixList t [a, b, c] w h (by simp) (by
    intro m hm
    simp only [List.mem_cons, List.not_mem_nil, or_false] at hm
    rcases hm with rfl | rfl | rfl <;> exact ⟨by omega, by omega⟩)
  unfold MakesScl at C1 C2 C3 C4 C5 C6 C7 C8 C9
  unfold MakesSMx at CT CO
  unfold MakesMx at CEA CEB
  have CV := fun w => C_l1InT s 1 2147483646 w (seedOk_bd hs)
  have HXO := Lib.hid hx
  have HKA : Hid (∀ m, m = a ∨ m = b ∨ m = c → m.ok = true ∧ m.a.r = x.a.c ∧ m.a.c = x.a.c) := Lib.hid (by
    rintro m (rfl | rfl | rfl)
    · exact ⟨ha, a1, a2⟩
    · exact ⟨hb, b1, b2⟩
    · exact ⟨hc, c1, c2⟩)
  have HXU := Lib.hid hu
  have HXV := Lib.hid hv
  have HW := Lib.hid hw
  have HOB := Lib.hid (⟨o1, o2, o3, o4, o5, o6, o7, o8, o9⟩ : zq.os.length ≤ 75 ∧ zk.os.length ≤ 75 ∧ zv.os.length ≤ 75 ∧ zt.os.length ≤ 75 ∧ zg.os.length ≤ 25 ∧ zn.os.length ≤ 25 ∧ zh.os.length ≤ 50 ∧ zj.os.length ≤ 25 ∧ zo.os.length ≤ 75)
  clear hu hv hw hok hx hs ha hb hc a1 a2 b1 b2 c1 c2 gq gk gv gt gg gok esa esb uk jx1 jx2 ja1 ja2 jb1 jb2 q2 k2 tk t1 hz hzq hzk hzv hzT hzt hzg hzS hzn hzh hzj hzo fx fa fb fc fq fk fv fT ft fg fS fn fh fj o1 o2 o3 o4 o5 o6 o7 o8 o9
  obtain ⟨L, HL, S⟩ := st_start w0; have F : True := trivial
  go_enter Tryz.func11, Tryz.ntmps11
  go_upto_region 1 with (first | (refine qbd 4 HL S ?_; clear F S HL; intro gx w L HL S F) | (refine qal HL S zSMx ?_; clear F S HL; intro g6 w L HL S F))
  (rw [HL.out] at S; have T := (S.toObj (p := 0) rfl); clear S HL F; have S := T; clear T; (try simp only [List.set_cons_zero, List.set_cons_succ] at S); obtain ⟨L, hM, T⟩ := st_name S; clear S; have S := T; clear T; have HL := Lib.hid hM; clear hM; have F := qFc HL S)
  go_upto_region 2 with (first | (go_at_call 41; refine (CW _ (HW.out.at_ S)).mono ?_; rintro e w ⟨tw, ps, rfl, hps, T0⟩; obtain ⟨wa, wb, xa, xb, ya, yb, rfl⟩ := threeSm hps; obtain ⟨L, hM, T⟩ := st_name (show St w0 w (.row 32 6 tw 3 [.int .i64 a.a.r, .int .i64 a.a.c, wa, .int .i64 a.b.r, .int .i64 a.b.c, wb, .int .i64 b.a.r, .int .i64 b.a.c, xa, .int .i64 b.b.r, .int .i64 b.b.c, xb, .int .i64 c.a.r, .int .i64 c.a.c, ya, .int .i64 c.b.r, .int .i64 c.b.c, yb] :: .row 3 1 wa a.a.xs.length (ints a.a.xs) :: .row 3 1 wb a.b.xs.length (ints a.b.xs) :: .row 3 1 xa b.a.xs.length (ints b.a.xs) :: .row 3 1 xb b.b.xs.length (ints b.b.xs) :: .row 3 1 ya c.a.xs.length (ints c.a.xs) :: .row 3 1 yb c.b.xs.length (ints c.b.xs) :: _) from S.call T0); clear T0; clear F S; replace HL := qNm HL hM; clear hM; have S := T; clear T; have F := qFc HL S))
  obtain ⟨gw, cw, rfl, hcw, hmw⟩ := S.rowAt (p := 0) (atOf HL rfl) (by omega)
  go_upto_region 3 with (first | refine qLb6 S ?_ | (go_at_call 42; refine (CO _ (HXU.out.at_ S) (HXV.out.at_ S)).mono ?_; rintro e w ⟨u, v, rfl, T0⟩; have hX := qcl HL S T0; clear F S HL T0; obtain ⟨L, HL, S, F⟩ := hX; obtain ⟨A', cap', rfl, hcap', hmax'⟩ := qSl HL S 0; obtain ⟨A', cap', rfl, hcap', hmax'⟩ := qSl HL S 1) | (refine qst HL S 10 ?_; clear F S HL; intro w L HL S F))
  clear CO CW
  go_upto_region 5 with (first | refine qLb6 S ?_ | (go_at_call 44; refine qPu (CV _) ?_) | (go_at_call 43; refine qGr S (C_spec_SharedMatrixValid _ _ _ _ _ _ _ _ _ _ (by exact (Sees.row S qAt).ints) (by exact (Sees.row S qAt).ints) (by exact HXO.out)) ?_; clear S; intro w S))
  clear CV
  go_wp2
  go_loopw [9] (fun i wr => ∃ (q : Nat), q ≤ 3 ∧ i = .int .i64 q ∧ St w0 wr L) (fun i _ => 3 - (intOf i).toNat)
  case atStart => exact ⟨0, by omega, rfl, S⟩
  case round =>
    clear S
    obtain ⟨q, hq, rfl, S⟩ := hrel
    by_cases hlt : q < 3
    · have e3 : q = 0 ∨ q = 1 ∨ q = 2 := by omega
      rcases e3 with rfl | rfl | rfl
      · obtain ⟨hm, hm1, hm2⟩ := HKA.out a (by simp)
        have HM := Lib.hid hm
        have f0 := fun w' (S' : St w0 w' L) => (S'.rowCell (p := 2) (atOf HL rfl) 0 (by omega)).trans (show _ = some (Value.int .i64 x.a.c) by rw [← hm1]; rfl)
        have f1 := fun w' (S' : St w0 w' L) => (S'.rowCell (p := 2) (atOf HL rfl) 1 (by omega)).trans (show _ = some (Value.int .i64 x.a.c) by rw [← hm2]; rfl)
        clear hm hm1 hm2
        go_upto_region 8 with fail
        have HL0 := HL; have F0 := F; refine wp_region_tree (S := fun w' => St w0 w' L) (qcs 0 4 (.act 4 (qcs 5 25 .fin) .stop)) (by kernel_rfl) (by kernel_rfl) (by kernel_rfl) (by intro c a d v w h; cases d <;> exact h) ?_; dsimp only [qcs, Nat.reduceAdd]; replace S := S.drew
        repeat (first | refine qTb6 ?_ | refine qTr6 ?_ | refine qCa ?_ | refine qAn ?_ | refine qSk ?_ | (refine tree_act rfl rfl ?_ tree_stop; intro K hK; go_wp2_with (first | (go_at_call 43; refine qGr S (C_spec_SharedMatrixValid _ _ _ _ _ _ _ _ _ _ (by exact (Sees.row S qAt)) (by exact (Sees.row S qAt)) (by exact HM.out)) ?_; clear S; intro w S)); (refine qKo hK ?_; clear hK K)))
        refine tree_fin ?_
        go_wp2
        go_roundw
        case rel => exact ⟨1, by omega, by go_num, S⟩
        case measure => simp [intOf]
      · obtain ⟨hm, hm1, hm2⟩ := HKA.out b (by simp)
        have HM := Lib.hid hm
        have f0 := fun w' (S' : St w0 w' L) => (S'.rowCell (p := 2) (atOf HL rfl) 6 (by omega)).trans (show _ = some (Value.int .i64 x.a.c) by rw [← hm1]; rfl)
        have f1 := fun w' (S' : St w0 w' L) => (S'.rowCell (p := 2) (atOf HL rfl) 7 (by omega)).trans (show _ = some (Value.int .i64 x.a.c) by rw [← hm2]; rfl)
        clear hm hm1 hm2
        go_upto_region 8 with fail
        have HL0 := HL; have F0 := F; refine wp_region_tree (S := fun w' => St w0 w' L) (qcs 0 4 (.act 4 (qcs 5 25 .fin) .stop)) (by kernel_rfl) (by kernel_rfl) (by kernel_rfl) (by intro c a d v w h; cases d <;> exact h) ?_; dsimp only [qcs, Nat.reduceAdd]; replace S := S.drew
        repeat (first | refine qTb6 ?_ | refine qTr6 ?_ | refine qCa ?_ | refine qAn ?_ | refine qSk ?_ | (refine tree_act rfl rfl ?_ tree_stop; intro K hK; go_wp2_with (first | (go_at_call 43; refine qGr S (C_spec_SharedMatrixValid _ _ _ _ _ _ _ _ _ _ (by exact (Sees.row S qAt)) (by exact (Sees.row S qAt)) (by exact HM.out)) ?_; clear S; intro w S)); (refine qKo hK ?_; clear hK K)))
        refine tree_fin ?_
        go_wp2
        go_roundw
        case rel => exact ⟨2, by omega, by go_num, S⟩
        case measure => simp [intOf]
      · obtain ⟨hm, hm1, hm2⟩ := HKA.out c (by simp)
        have HM := Lib.hid hm
        have f0 := fun w' (S' : St w0 w' L) => (S'.rowCell (p := 2) (atOf HL rfl) 12 (by omega)).trans (show _ = some (Value.int .i64 x.a.c) by rw [← hm1]; rfl)
        have f1 := fun w' (S' : St w0 w' L) => (S'.rowCell (p := 2) (atOf HL rfl) 13 (by omega)).trans (show _ = some (Value.int .i64 x.a.c) by rw [← hm2]; rfl)
        clear hm hm1 hm2
        go_upto_region 8 with fail
        have HL0 := HL; have F0 := F; refine wp_region_tree (S := fun w' => St w0 w' L) (qcs 0 4 (.act 4 (qcs 5 25 .fin) .stop)) (by kernel_rfl) (by kernel_rfl) (by kernel_rfl) (by intro c a d v w h; cases d <;> exact h) ?_; dsimp only [qcs, Nat.reduceAdd]; replace S := S.drew
        repeat (first | refine qTb6 ?_ | refine qTr6 ?_ | refine qCa ?_ | refine qAn ?_ | refine qSk ?_ | (refine tree_act rfl rfl ?_ tree_stop; intro K hK; go_wp2_with (first | (go_at_call 43; refine qGr S (C_spec_SharedMatrixValid _ _ _ _ _ _ _ _ _ _ (by exact (Sees.row S qAt)) (by exact (Sees.row S qAt)) (by exact HM.out)) ?_; clear S; intro w S)); (refine qKo hK ?_; clear hK K)))
        refine tree_fin ?_
        go_wp2
        go_roundw
        case rel => exact ⟨3, by omega, by go_num, S⟩
        case measure => simp [intOf]
    · obtain rfl : q = 3 := by omega
      clear hq hlt HKA
      (rw [HL.out] at S; have T := (S.toObj (p := 10) rfl); clear S HL F; have S := T; clear T; (try simp only [List.set_cons_zero, List.set_cons_succ] at S); obtain ⟨L, hM, T⟩ := st_name S; clear S; have S := T; clear T; have HL := Lib.hid hM; clear hM; have F := qFc HL S)
      go_upto_region 10 with fail
      (try simp only [Act.put, qP0, qP1, qP2])
      go_cut [10, 11, 12] (fun t o z w => ∃ (gq : Nat) (Agq Bgq ogq : Option Addr) (cgq dgq egq : Nat), t = .pointer (some ⟨gq, 0, none⟩) ∧ o = .slice ogq zq.os.length egq ∧ z = .int .i64 zq.last ∧ St w0 w (.box gq 32 [.int .i64 zq.m.a.r, .int .i64 zq.m.a.c, .slice Agq zq.m.a.xs.length cgq, .int .i64 zq.m.b.r, .int .i64 zq.m.b.c, .slice Bgq zq.m.b.xs.length dgq] :: .row 3 1 (.slice ogq zq.os.length egq) zq.os.length (ints zq.os) :: .row 3 1 (.slice Bgq zq.m.b.xs.length dgq) zq.m.b.xs.length (ints zq.m.b.xs) :: .row 3 1 (.slice Agq zq.m.a.xs.length cgq) zq.m.a.xs.length (ints zq.m.a.xs) :: L))
      case first => as_aux_lemma =>
        have HL0 := HL; have F0 := F; refine wp_region_tree (S := fun w' => St w0 w' L) (qcs 0 5 (.act 5 (qcs 6 4 (.act 10 (.act 11 (.calm 12 (.calm 13 .fin)) .stop) .stop)) (.act 10 (.act 5 (qcs 6 4 (.act 11 (.calm 12 (.calm 13 .fin)) .stop)) .stop) .stop))) (by kernel_rfl) (by kernel_rfl) (by kernel_rfl) (by intro c a d v w h; cases d <;> exact h) ?_; dsimp only [qcs, Nat.reduceAdd]; replace S := S.drew
        repeat' (first | refine qTo6 ?_ | refine qTr6 ?_ | refine qCa ?_ | refine qAn ?_ | refine qSk ?_ | exact tree_stop | (refine tree_act rfl rfl ?_ ?_) | (intro K hK; (refine qaw HL S zSMx ?_; clear F S HL; intro g w L HL S F); (refine qKo hK ?_; clear hK K)) | (intro K hK; (refine qsw HL S 0 ?_; clear F S HL; intro w L HL S F); (refine qKo hK ?_; clear hK K)) | (intro K hK; (refine qsw HL S 3 ?_; clear F S HL; intro w L HL S F); (refine qKo hK ?_; clear hK K)) | (intro K hK; (refine qsw HL S 5 ?_; clear F S HL; intro w L HL S F); (refine qKo hK ?_; clear hK K)) | (intro K hK; go_wp2_with (first | (go_at_call 45; refine (C1 _ _ _ _ _ (Sees.row S qAt) (Sees.row S qAt) (Sees.row S qAt) (Sees.row S qAt)).mono ?_; rintro e w ⟨u1, v1, o1, rfl, T0⟩; have hX := qcl HL S T0; clear F S HL T0; obtain ⟨L, HL, S, F⟩ := hX; obtain ⟨Ao, co, rfl, hco, hmo⟩ := qSl HL S 0; obtain ⟨A', cap', rfl, hcap', hmax'⟩ := qSl HL S 1; obtain ⟨A', cap', rfl, hcap', hmax'⟩ := qSl HL S 2)); (refine qKo hK ?_; clear hK K)))
        all_goals
          refine tree_fin ?_
          go_wp2_with fail
          go_meet
          rw [HL0.out]
          rw [HL.out] at S
          exact ⟨_, _, _, _, _, _, _, rfl, rfl, rfl, S.sel (by exact qQ4)⟩
      case rest =>
      obtain ⟨gq, Agq, Bgq, ogq, cgq, dgq, egq, rfl, rfl, rfl, T0⟩ := hcut
      obtain ⟨L, hM, T⟩ := st_name T0
      clear T0
      clear F S; replace HL := qNm HL hM; clear hM; have S := T; clear T; have F := qFc HL S
      (rw [HL.out] at S; have T := (S.toObj (p := 0) rfl); clear S HL F; have S := T; clear T; (try simp only [List.set_cons_zero, List.set_cons_succ] at S); obtain ⟨L, hM, T⟩ := st_name S; clear S; have S := T; clear T; have HL := Lib.hid hM; clear hM; have F := qFc HL S)
      clear C1
      go_upto_region 11 with fail
      (try simp only [Act.put, qP0, qP1, qP2])
      go_cut [13, 14, 15] (fun t o z w => ∃ (gk : Nat) (Agk Bgk ogk : Option Addr) (cgk dgk egk : Nat), t = .pointer (some ⟨gk, 0, none⟩) ∧ o = .slice ogk zk.os.length egk ∧ z = .int .i64 zk.last ∧ St w0 w (.box gk 32 [.int .i64 zk.m.a.r, .int .i64 zk.m.a.c, .slice Agk zk.m.a.xs.length cgk, .int .i64 zk.m.b.r, .int .i64 zk.m.b.c, .slice Bgk zk.m.b.xs.length dgk] :: .row 3 1 (.slice ogk zk.os.length egk) zk.os.length (ints zk.os) :: .row 3 1 (.slice Bgk zk.m.b.xs.length dgk) zk.m.b.xs.length (ints zk.m.b.xs) :: .row 3 1 (.slice Agk zk.m.a.xs.length cgk) zk.m.a.xs.length (ints zk.m.a.xs) :: L))
      case first => as_aux_lemma =>
        have HL0 := HL; have F0 := F; refine wp_region_tree (S := fun w' => St w0 w' L) (qcs 0 5 (.act 5 (qcs 6 4 (.act 10 (.act 11 (.calm 12 (.calm 13 .fin)) .stop) .stop)) (.act 10 (.act 5 (qcs 6 4 (.act 11 (.calm 12 (.calm 13 .fin)) .stop)) .stop) .stop))) (by kernel_rfl) (by kernel_rfl) (by kernel_rfl) (by intro c a d v w h; cases d <;> exact h) ?_; dsimp only [qcs, Nat.reduceAdd]; replace S := S.drew
        repeat' (first | refine qTo6 ?_ | refine qTr6 ?_ | refine qCa ?_ | refine qAn ?_ | refine qSk ?_ | exact tree_stop | (refine tree_act rfl rfl ?_ ?_) | (intro K hK; (refine qaw HL S zSMx ?_; clear F S HL; intro g w L HL S F); (refine qKo hK ?_; clear hK K)) | (intro K hK; (refine qsw HL S 0 ?_; clear F S HL; intro w L HL S F); (refine qKo hK ?_; clear hK K)) | (intro K hK; (refine qsw HL S 3 ?_; clear F S HL; intro w L HL S F); (refine qKo hK ?_; clear hK K)) | (intro K hK; (refine qsw HL S 5 ?_; clear F S HL; intro w L HL S F); (refine qKo hK ?_; clear hK K)) | (intro K hK; go_wp2_with (first | (go_at_call 45; refine (C2 _ _ _ _ _ (Sees.row S qAt) (Sees.row S qAt) (Sees.row S qAt) (Sees.row S qAt)).mono ?_; rintro e w ⟨u1, v1, o1, rfl, T0⟩; have hX := qcl HL S T0; clear F S HL T0; obtain ⟨L, HL, S, F⟩ := hX; obtain ⟨Ao, co, rfl, hco, hmo⟩ := qSl HL S 0; obtain ⟨A', cap', rfl, hcap', hmax'⟩ := qSl HL S 1; obtain ⟨A', cap', rfl, hcap', hmax'⟩ := qSl HL S 2)); (refine qKo hK ?_; clear hK K)))
        all_goals
          refine tree_fin ?_
          go_wp2_with fail
          go_meet
          rw [HL0.out]
          rw [HL.out] at S
          exact ⟨_, _, _, _, _, _, _, rfl, rfl, rfl, S.sel (by exact qQ4)⟩
      case rest =>
      obtain ⟨gk, Agk, Bgk, ogk, cgk, dgk, egk, rfl, rfl, rfl, T0⟩ := hcut
      obtain ⟨L, hM, T⟩ := st_name T0
      clear T0
      clear F S; replace HL := qNm HL hM; clear hM; have S := T; clear T; have F := qFc HL S
      (rw [HL.out] at S; have T := (S.toObj (p := 0) rfl); clear S HL F; have S := T; clear T; (try simp only [List.set_cons_zero, List.set_cons_succ] at S); obtain ⟨L, hM, T⟩ := st_name S; clear S; have S := T; clear T; have HL := Lib.hid hM; clear hM; have F := qFc HL S)
      clear C2
      go_upto_region 12 with fail
      (try simp only [Act.put, qP0, qP1, qP2])
      go_cut [16, 17, 18] (fun t o z w => ∃ (gv : Nat) (Agv Bgv ogv : Option Addr) (cgv dgv egv : Nat), t = .pointer (some ⟨gv, 0, none⟩) ∧ o = .slice ogv zv.os.length egv ∧ z = .int .i64 zv.last ∧ St w0 w (.box gv 32 [.int .i64 zv.m.a.r, .int .i64 zv.m.a.c, .slice Agv zv.m.a.xs.length cgv, .int .i64 zv.m.b.r, .int .i64 zv.m.b.c, .slice Bgv zv.m.b.xs.length dgv] :: .row 3 1 (.slice ogv zv.os.length egv) zv.os.length (ints zv.os) :: .row 3 1 (.slice Bgv zv.m.b.xs.length dgv) zv.m.b.xs.length (ints zv.m.b.xs) :: .row 3 1 (.slice Agv zv.m.a.xs.length cgv) zv.m.a.xs.length (ints zv.m.a.xs) :: L))
      case first => as_aux_lemma =>
        have HL0 := HL; have F0 := F; refine wp_region_tree (S := fun w' => St w0 w' L) (qcs 0 5 (.act 5 (qcs 6 4 (.act 10 (.act 11 (.calm 12 (.calm 13 .fin)) .stop) .stop)) (.act 10 (.act 5 (qcs 6 4 (.act 11 (.calm 12 (.calm 13 .fin)) .stop)) .stop) .stop))) (by kernel_rfl) (by kernel_rfl) (by kernel_rfl) (by intro c a d v w h; cases d <;> exact h) ?_; dsimp only [qcs, Nat.reduceAdd]; replace S := S.drew
        repeat' (first | refine qTo6 ?_ | refine qTr6 ?_ | refine qCa ?_ | refine qAn ?_ | refine qSk ?_ | exact tree_stop | (refine tree_act rfl rfl ?_ ?_) | (intro K hK; (refine qaw HL S zSMx ?_; clear F S HL; intro g w L HL S F); (refine qKo hK ?_; clear hK K)) | (intro K hK; (refine qsw HL S 0 ?_; clear F S HL; intro w L HL S F); (refine qKo hK ?_; clear hK K)) | (intro K hK; (refine qsw HL S 3 ?_; clear F S HL; intro w L HL S F); (refine qKo hK ?_; clear hK K)) | (intro K hK; (refine qsw HL S 5 ?_; clear F S HL; intro w L HL S F); (refine qKo hK ?_; clear hK K)) | (intro K hK; go_wp2_with (first | (go_at_call 45; refine (C3 _ _ _ _ _ (Sees.row S qAt) (Sees.row S qAt) (Sees.row S qAt) (Sees.row S qAt)).mono ?_; rintro e w ⟨u1, v1, o1, rfl, T0⟩; have hX := qcl HL S T0; clear F S HL T0; obtain ⟨L, HL, S, F⟩ := hX; obtain ⟨Ao, co, rfl, hco, hmo⟩ := qSl HL S 0; obtain ⟨A', cap', rfl, hcap', hmax'⟩ := qSl HL S 1; obtain ⟨A', cap', rfl, hcap', hmax'⟩ := qSl HL S 2)); (refine qKo hK ?_; clear hK K)))
        all_goals
          refine tree_fin ?_
          go_wp2_with fail
          go_meet
          rw [HL0.out]
          rw [HL.out] at S
          exact ⟨_, _, _, _, _, _, _, rfl, rfl, rfl, S.sel (by exact qQ4)⟩
      case rest =>
      obtain ⟨gv, Agv, Bgv, ogv, cgv, dgv, egv, rfl, rfl, rfl, T0⟩ := hcut
      obtain ⟨L, hM, T⟩ := st_name T0
      clear T0
      clear F S; replace HL := qNm HL hM; clear hM; have S := T; clear T; have F := qFc HL S
      (rw [HL.out] at S; have T := (S.toObj (p := 0) rfl); clear S HL F; have S := T; clear T; (try simp only [List.set_cons_zero, List.set_cons_succ] at S); obtain ⟨L, hM, T⟩ := st_name S; clear S; have S := T; clear T; have HL := Lib.hid hM; clear hM; have F := qFc HL S)
      clear C3
      go_upto_region 13 with fail
      (try simp only [Act.put, qP0, qP1, qP2])
      go_cut [19, 20, 21] (fun t o z w => ∃ (gt : Nat) (Agt Bgt ogt : Option Addr) (cgt dgt egt : Nat), t = .pointer (some ⟨gt, 0, none⟩) ∧ o = .slice ogt zt.os.length egt ∧ z = .int .i64 zt.last ∧ St w0 w (.box gt 32 [.int .i64 zt.m.a.r, .int .i64 zt.m.a.c, .slice Agt zt.m.a.xs.length cgt, .int .i64 zt.m.b.r, .int .i64 zt.m.b.c, .slice Bgt zt.m.b.xs.length dgt] :: .row 3 1 (.slice ogt zt.os.length egt) zt.os.length (ints zt.os) :: .row 3 1 (.slice Bgt zt.m.b.xs.length dgt) zt.m.b.xs.length (ints zt.m.b.xs) :: .row 3 1 (.slice Agt zt.m.a.xs.length cgt) zt.m.a.xs.length (ints zt.m.a.xs) :: L))
      case first => as_aux_lemma =>
        have HL0 := HL; have F0 := F; refine wp_region_tree (S := fun w' => St w0 w' L) (.calm 0 (.calm 1 (.calm 3 (.act 2 (.act 4 (qcs 5 4 (.act 9 (.act 10 (.calm 11 (.calm 12 .fin)) .stop) .stop)) (.act 9 (.act 4 (qcs 5 4 (.act 10 (.calm 11 (.calm 12 .fin)) .stop)) .stop) .stop)) (.act 9 (.act 2 (.act 4 (qcs 5 4 (.act 10 (.calm 11 (.calm 12 .fin)) .stop)) .stop) .stop) .stop))))) (by kernel_rfl) (by kernel_rfl) (by kernel_rfl) (by intro c a d v w h; cases d <;> exact h) ?_; dsimp only [qcs, Nat.reduceAdd]; replace S := S.drew
        repeat' (first | refine qTo6 ?_ | refine qTr6 ?_ | refine qCa ?_ | refine qAn ?_ | refine qSk ?_ | exact tree_stop | (refine tree_act rfl rfl ?_ ?_) | (intro K hK; (refine qaw HL S zSMx ?_; clear F S HL; intro g w L HL S F); (refine qKo hK ?_; clear hK K)) | (intro K hK; (refine qsw HL S 0 ?_; clear F S HL; intro w L HL S F); (refine qKo hK ?_; clear hK K)) | (intro K hK; (refine qsw HL S 3 ?_; clear F S HL; intro w L HL S F); (refine qKo hK ?_; clear hK K)) | (intro K hK; (refine qsw HL S 5 ?_; clear F S HL; intro w L HL S F); (refine qKo hK ?_; clear hK K)) | (intro K hK; go_wp2_with (first | (go_at_call 45; refine (C4 _ _ _ _ _ (Sees.row S qAt) (Sees.row S qAt) (Sees.row S qAt) (Sees.row S qAt)).mono ?_; rintro e w ⟨u1, v1, o1, rfl, T0⟩; have hX := qcl HL S T0; clear F S HL T0; obtain ⟨L, HL, S, F⟩ := hX; obtain ⟨Ao, co, rfl, hco, hmo⟩ := qSl HL S 0; obtain ⟨A', cap', rfl, hcap', hmax'⟩ := qSl HL S 1; obtain ⟨A', cap', rfl, hcap', hmax'⟩ := qSl HL S 2) | (go_at_call 46; refine (CT _ _ _ (Sees.row S qAt) (Sees.row S qAt)).mono ?_; rintro e w ⟨u, v, rfl, T0⟩; have hX := qcl HL S T0; clear F S HL T0; obtain ⟨L, HL, S, F⟩ := hX; obtain ⟨A', cap', rfl, hcap', hmax'⟩ := qSl HL S 0; obtain ⟨A', cap', rfl, hcap', hmax'⟩ := qSl HL S 1)); (refine qKo hK ?_; clear hK K)))
        all_goals
          refine tree_fin ?_
          go_wp2_with fail
          go_meet
          rw [HL0.out]
          rw [HL.out] at S
          exact ⟨_, _, _, _, _, _, _, rfl, rfl, rfl, S.sel (by exact qQ4)⟩
      case rest =>
      obtain ⟨gt, Agt, Bgt, ogt, cgt, dgt, egt, rfl, rfl, rfl, T0⟩ := hcut
      obtain ⟨L, hM, T⟩ := st_name T0
      clear T0
      clear F S; replace HL := qNm HL hM; clear hM; have S := T; clear T; have F := qFc HL S
      (rw [HL.out] at S; have T := (S.toObj (p := 0) rfl); clear S HL F; have S := T; clear T; (try simp only [List.set_cons_zero, List.set_cons_succ] at S); obtain ⟨L, hM, T⟩ := st_name S; clear S; have S := T; clear T; have HL := Lib.hid hM; clear hM; have F := qFc HL S)
      clear C4 CT
      rw [HL.out] at S
      have T := S.sub (List.Sublist.cons_cons _ (List.Sublist.cons_cons _ (List.Sublist.cons_cons _ (List.Sublist.cons_cons _ (List.Sublist.cons_cons _ (List.Sublist.cons_cons _ (List.Sublist.cons_cons _ (List.Sublist.cons_cons _ (List.Sublist.cons _ (List.Sublist.cons_cons _ (List.Sublist.cons _ (List.Sublist.cons _ (List.Sublist.cons _ (List.Sublist.cons_cons _ (List.Sublist.cons _ (List.Sublist.cons _ (List.Sublist.cons _ (List.Sublist.cons _ (List.Sublist.cons _ (List.Sublist.cons _ (List.Sublist.cons _ (List.Sublist.cons _ (List.Sublist.cons _ (List.Sublist.cons _ (List.Sublist.cons _ (List.Sublist.cons_cons _ (List.Sublist.cons _ (List.nil_sublist _))))))))))))))))))))))))))))
      clear S HL F
      have S := T
      clear T
      obtain ⟨L, hM, T⟩ := st_name S; clear S; have S := T; clear T; have HL := Lib.hid hM; clear hM; have F := qFc HL S
      go_upto_region 15 with (first | refine qLo6 S ?_ | (go_at_call 47; refine (C5 _ _ _ (Sees.row S qAt) (Sees.row S qAt)).mono ?_; rintro e w ⟨u1, v1, o1, rfl, T0⟩; have hX := qcl HL S T0; clear F S HL T0; obtain ⟨L, HL, S, F⟩ := hX; obtain ⟨Ao, co, rfl, hco, hmo⟩ := qSl HL S 0; obtain ⟨A', cap', rfl, hcap', hmax'⟩ := qSl HL S 1; obtain ⟨A', cap', rfl, hcap', hmax'⟩ := qSl HL S 2) | (refine qal HL S zSMx ?_; clear F S HL; intro gg w L HL S F) | (refine qst HL S 0 ?_; clear F S HL; intro w L HL S F))
      clear C5
      (rw [HL.out] at S; have T := (S.toObj (p := 0) rfl); clear S HL F; have S := T; clear T; (try simp only [List.set_cons_zero, List.set_cons_succ] at S); obtain ⟨L, hM, T⟩ := st_name S; clear S; have S := T; clear T; have HL := Lib.hid hM; clear hM; have F := qFc HL S)
      (try simp only [Act.put, qP0, qP1, qP2])
      go_cut [25] (fun t w => ∃ (gS : Nat) (AS BS : Option Addr) (cS dS : Nat), t = .pointer (some ⟨gS, 0, none⟩) ∧ St w0 w (.box gS 32 [.int .i64 zS.a.r, .int .i64 zS.a.c, .slice AS zS.a.xs.length cS, .int .i64 zS.b.r, .int .i64 zS.b.c, .slice BS zS.b.xs.length dS] :: .row 3 1 (.slice BS zS.b.xs.length dS) zS.b.xs.length (ints zS.b.xs) :: .row 3 1 (.slice AS zS.a.xs.length cS) zS.a.xs.length (ints zS.a.xs) :: L))
      case first =>
        have HL0 := HL; have F0 := F; refine wp_region_tree (S := fun w' => St w0 w' L) (.calm 0 (.calm 1 (.calm 3 (.calm 4 (.act 2 (.act 5 (.calm 6 (.act 7 (.act 8 .fin .stop) .stop)) (.act 7 (.act 5 (.calm 6 (.act 8 .fin .stop)) .stop) .stop)) (.act 7 (.act 2 (.act 5 (.calm 6 (.act 8 .fin .stop)) .stop) .stop) .stop)))))) (by kernel_rfl) (by kernel_rfl) (by kernel_rfl) (by intro c a d v w h; cases d <;> exact h) ?_; replace S := S.drew
        repeat' (first | refine qTo3 ?_ | refine qCa ?_ | refine qAn ?_ | refine qSk ?_ | exact tree_stop | (refine tree_act rfl rfl ?_ ?_) | (intro K hK; (refine qaw HL S zSMx ?_; clear F S HL; intro g w L HL S F); (refine qKo hK ?_; clear hK K)) | (intro K hK; (refine qsw HL S 0 ?_; clear F S HL; intro w L HL S F); (refine qKo hK ?_; clear hK K)) | (intro K hK; (refine qsw HL S 1 ?_; clear F S HL; intro w L HL S F); (refine qKo hK ?_; clear hK K)) | (intro K hK; (refine qsw HL S 2 ?_; clear F S HL; intro w L HL S F); (refine qKo hK ?_; clear hK K)) | (intro K hK; go_wp2_with (first | (go_at_call 48; refine (CEA _ _ (Sees.row S qAt)).mono ?_; rintro e w ⟨u1, rfl, T0⟩; have hX := qcl HL S T0; clear F S HL T0; obtain ⟨L, HL, S, F⟩ := hX; obtain ⟨A', cap', rfl, hcap', hmax'⟩ := qSl HL S 0) | (go_at_call 48; refine (CEB _ _ (Sees.row S qAt)).mono ?_; rintro e w ⟨u1, rfl, T0⟩; have hX := qcl HL S T0; clear F S HL T0; obtain ⟨L, HL, S, F⟩ := hX; obtain ⟨A', cap', rfl, hcap', hmax'⟩ := qSl HL S 0)); (refine qKo hK ?_; clear hK K)))
        all_goals
          refine tree_fin ?_
          go_wp2_with fail
          go_meet
          rw [HL0.out]
          rw [HL.out] at S
          exact ⟨_, _, _, _, _, rfl, S.sel (by exact qQ3)⟩
      case rest =>
      obtain ⟨gS, AS, BS, cS, dS, rfl, T0⟩ := hcut
      obtain ⟨L, hM, T⟩ := st_name T0
      clear T0
      clear F S; replace HL := qNm HL hM; clear hM; have S := T; clear T; have F := qFc HL S
      (rw [HL.out] at S; have T := (S.toObj (p := 0) rfl); clear S HL F; have S := T; clear T; (try simp only [List.set_cons_zero, List.set_cons_succ] at S); obtain ⟨L, hM, T⟩ := st_name S; clear S; have S := T; clear T; have HL := Lib.hid hM; clear hM; have F := qFc HL S)
      clear CEA CEB
      go_upto_region 17 with (first | refine qLo6 S ?_ | (go_at_call 47; refine (C6 _ _ _ (Sees.row S qAt) (Sees.row S qAt)).mono ?_; rintro e w ⟨u1, v1, o1, rfl, T0⟩; have hX := qcl HL S T0; clear F S HL T0; obtain ⟨L, HL, S, F⟩ := hX; obtain ⟨Ao, co, rfl, hco, hmo⟩ := qSl HL S 0; obtain ⟨A', cap', rfl, hcap', hmax'⟩ := qSl HL S 1; obtain ⟨A', cap', rfl, hcap', hmax'⟩ := qSl HL S 2) | (refine qal HL S zSMx ?_; clear F S HL; intro gn w L HL S F) | (refine qst HL S 0 ?_; clear F S HL; intro w L HL S F))
      clear C6
      (rw [HL.out] at S; have T := (S.toObj (p := 0) rfl); clear S HL F; have S := T; clear T; (try simp only [List.set_cons_zero, List.set_cons_succ] at S); obtain ⟨L, hM, T⟩ := st_name S; clear S; have S := T; clear T; have HL := Lib.hid hM; clear hM; have F := qFc HL S)
      go_upto_region 18 with (first | refine qLo6 S ?_ | (go_at_call 49; refine (C7 _ _ _ _ _ (Sees.row S qAt) (Sees.row S qAt) (Sees.row S qAt) (Sees.row S qAt)).mono ?_; rintro e w ⟨u1, v1, o1, rfl, T0⟩; have hX := qcl HL S T0; clear F S HL T0; obtain ⟨L, HL, S, F⟩ := hX; obtain ⟨Ao, co, rfl, hco, hmo⟩ := qSl HL S 0; obtain ⟨A', cap', rfl, hcap', hmax'⟩ := qSl HL S 1; obtain ⟨A', cap', rfl, hcap', hmax'⟩ := qSl HL S 2) | (refine qal HL S zSMx ?_; clear F S HL; intro gh w L HL S F) | (refine qst HL S 0 ?_; clear F S HL; intro w L HL S F))
      clear C7
      (rw [HL.out] at S; have T := (S.toObj (p := 0) rfl); clear S HL F; have S := T; clear T; (try simp only [List.set_cons_zero, List.set_cons_succ] at S); obtain ⟨L, hM, T⟩ := st_name S; clear S; have S := T; clear T; have HL := Lib.hid hM; clear hM; have F := qFc HL S)
      rw [HL.out] at S
      have T := S.sub (List.Sublist.cons_cons _ (List.Sublist.cons_cons _ (List.Sublist.cons_cons _ (List.Sublist.cons_cons _ (List.Sublist.cons _ (List.Sublist.cons_cons _ (List.Sublist.cons _ (List.Sublist.cons _ (List.Sublist.cons _ (List.Sublist.cons _ (List.Sublist.cons _ (List.Sublist.cons _ (List.Sublist.cons_cons _ (List.Sublist.cons _ (List.Sublist.cons _ (List.Sublist.cons _ (List.Sublist.cons_cons _ (List.Sublist.cons _ (List.Sublist.cons _ (List.Sublist.cons_cons _ (List.Sublist.cons_cons _ (List.Sublist.cons_cons _ (List.Sublist.cons_cons _ (List.Sublist.cons_cons _ (List.Sublist.cons_cons _ (List.Sublist.cons_cons _ (List.nil_sublist _)))))))))))))))))))))))))))
      clear S HL F
      have S := T
      clear T
      obtain ⟨L, hM, T⟩ := st_name S; clear S; have S := T; clear T; have HL := Lib.hid hM; clear hM; have F := qFc HL S
      go_upto_region 19 with (first | refine qLo6 S ?_ | (go_at_call 47; refine (C8 _ _ _ (Sees.row S qAt) (Sees.row S qAt)).mono ?_; rintro e w ⟨u1, v1, o1, rfl, T0⟩; have hX := qcl HL S T0; clear F S HL T0; obtain ⟨L, HL, S, F⟩ := hX; obtain ⟨Ao, co, rfl, hco, hmo⟩ := qSl HL S 0; obtain ⟨A', cap', rfl, hcap', hmax'⟩ := qSl HL S 1; obtain ⟨A', cap', rfl, hcap', hmax'⟩ := qSl HL S 2) | (refine qal HL S zSMx ?_; clear F S HL; intro gj w L HL S F) | (refine qst HL S 0 ?_; clear F S HL; intro w L HL S F))
      clear C8
      (rw [HL.out] at S; have T := (S.toObj (p := 0) rfl); clear S HL F; have S := T; clear T; (try simp only [List.set_cons_zero, List.set_cons_succ] at S); obtain ⟨L, hM, T⟩ := st_name S; clear S; have S := T; clear T; have HL := Lib.hid hM; clear hM; have F := qFc HL S)
      go_upto_region 20 with (first | refine qLo6 S ?_ | (go_at_call 45; refine (C9 _ _ _ _ _ (Sees.row S qAt) (Sees.row S qAt) (Sees.row S qAt) (Sees.row S qAt)).mono ?_; rintro e w ⟨u1, v1, o1, rfl, T0⟩; have hX := qcl HL S T0; clear F S HL T0; obtain ⟨L, HL, S, F⟩ := hX; obtain ⟨Ao, co, rfl, hco, hmo⟩ := qSl HL S 0; obtain ⟨A', cap', rfl, hcap', hmax'⟩ := qSl HL S 1; obtain ⟨A', cap', rfl, hcap', hmax'⟩ := qSl HL S 2) | (refine qal HL S zSMx ?_; clear F S HL; intro go w L HL S F) | (refine qst HL S 0 ?_; clear F S HL; intro w L HL S F))
      clear C9
      (rw [HL.out] at S; have T := (S.toObj (p := 0) rfl); clear S HL F; have S := T; clear T; (try simp only [List.set_cons_zero, List.set_cons_succ] at S); obtain ⟨L, hM, T⟩ := st_name S; clear S; have S := T; clear T; have HL := Lib.hid hM; clear hM; have F := qFc HL S)
      obtain ⟨o1, o2, o3, o4, o5, o6, o7, o8, o9⟩ := HOB.out
      go_upto_region 21 with (first | (refine wpList_append_see rfl S _ _ _ rfl 20 3 _ 1 8 Tryz.underlying23 infoInt rfl (by omega) _ _ _ rfl (atOf HL rfl) _ _ _ rfl (by exact (Sees.row S qAt)) (ints_one _) (by simp only [maxLen]; omega) (by omega) ?_; clear F S; intro u' w L hM S; replace HL := qNm HL hM; clear hM; have F := qFc HL S))
      rw [HL.out] at S
      have T := S.sub (List.Sublist.cons_cons _ (List.Sublist.cons_cons _ (List.Sublist.cons_cons _ (List.Sublist.cons_cons _ (List.Sublist.cons _ (List.Sublist.cons_cons _ (List.Sublist.cons _ (List.Sublist.cons _ (List.Sublist.cons _ (List.Sublist.cons_cons _ (List.Sublist.cons _ (List.Sublist.cons _ (List.Sublist.cons_cons _ (List.Sublist.cons _ (List.Sublist.cons _ (List.Sublist.cons _ (List.Sublist.cons _ (List.Sublist.cons _ (List.Sublist.cons _ (List.Sublist.cons _ (List.Sublist.cons_cons _ (List.Sublist.cons_cons _ (List.nil_sublist _)))))))))))))))))))))))
      clear S HL F
      have S := T
      clear T
      obtain ⟨L, hM, T⟩ := st_name S; clear S; have S := T; clear T; have HL := Lib.hid hM; clear hM; have F := qFc HL S
      (rw [HL.out] at S; have T := (S.toBox (p := 8) rfl); clear S HL F; have S := T; clear T; (try simp only [List.set_cons_zero, List.set_cons_succ] at S); obtain ⟨L, hM, T⟩ := st_name S; clear S; have S := T; clear T; have HL := Lib.hid hM; clear hM; have F := qFc HL S)
      rw [HL.out] at S
      have T := S.sel (M := .box g6 _ _ :: .row 3 1 _ (zq.os.length + zk.os.length + zv.os.length + zt.os.length + zg.os.length) _ :: _) (Sel.cons 8 rfl (Sel.cons 7 rfl (Sel.tail (.refl _))))
      clear S HL F
      have S := T
      clear T
      simp only [List.eraseIdx_cons_succ, List.eraseIdx_cons_zero] at S
      obtain ⟨L, hM, T⟩ := st_name S; clear S; have S := T; clear T; have HL := Lib.hid hM; clear hM; have F := qFc HL S
      have hT := congrArg (List.drop 2) HL.out; simp only [List.drop_succ_cons, List.drop_zero] at hT; obtain ⟨L1, hL1⟩ : ∃ M, M = L.drop 2 := ⟨_, rfl⟩; rw [← hL1] at hT; have HL0 := Lib.hid hT; have S1 := S.sub (List.drop_sublist 2 L); rw [← hL1] at S1; have F0 := qFc HL0 S1; clear S1 hL1 hT; refine wp_region_tree (S := fun w' => St w0 w' L1) (qcs 0 3 (.calm 4 (.calm 6 (.calm 8 (.calm 10 (.act 3 (.act 5 (.act 7 (.act 9 (.act 11 (.calm 12 (.calm 13 .fin)) .stop) .stop) .stop) .stop) .stop)))))) (by kernel_rfl) (by kernel_rfl) (by kernel_rfl) (by intro c a d v w h; cases d <;> exact h) ?_; dsimp only [qcs, Nat.reduceAdd]; replace S := S.drew
      repeat (first | refine qTo6 ?_ | refine qCa ?_ | refine qAn ?_ | refine qSk ?_ | (refine tree_act rfl rfl ?_ tree_stop; intro K hK; (refine qsw HL S 0 ?_; clear F S HL; intro w L HL S F); (refine qKo hK ?_; clear hK K)) | (refine tree_act rfl rfl ?_ tree_stop; intro K hK; (refine wp_append_see S _ _ _ rfl 1 3 _ 1 8 Tryz.underlying23 infoInt rfl (by omega) _ _ _ rfl (atOf HL rfl) _ _ _ rfl (by exact (Sees.row S qAt)) (ints_one _) (by simp only [maxLen]; omega) (by omega) ?_; clear F S; intro u' w L hM S; replace HL := qNm HL hM; clear hM; have F := qFc HL S); (refine qKo hK ?_; clear hK K)) | (refine tree_act rfl rfl ?_ tree_stop; intro K hK; go_wp2_with (first | fail); (refine qKo hK ?_; clear hK K)))
      refine tree_fin ?_
      go_wp2
      refine ret3 rfl (resCell S HL 0 rfl rfl (by kernel_rfl)) (show _ = _ from rfl) (show _ = _ from rfl) rfl ?_
      simp only [List.length_append]
      simp only [ints_append, List.append_assoc]
      exact ⟨_, _, _, rfl, (by rw [HL.out] at S; exact S.sel (by exact qSel))⟩
end
end Go.Proofs.YtjgfjfjboimgdaaGreat
