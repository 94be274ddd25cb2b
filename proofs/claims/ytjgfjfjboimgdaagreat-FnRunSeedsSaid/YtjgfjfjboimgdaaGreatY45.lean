/- RuS RsS -/
import Derived.Test.YtjgfjfjboimgdaaGreatY30
import Derived.Test.YtjgfjfjboimgdaaGreatY40
import Derived.Test.YtjgfjfjboimgdaaGreatY41
import Derived.Test.YtjgfjfjboimgdaaGreatY44
namespace Go.Proofs.YtjgfjfjboimgdaaGreat
set_option linter.unusedSimpArgs false
set_option linter.unusedVariables false
set_option linter.unusedSectionVars false
open Go Go.RowKit
set_option maxHeartbeats 8000000
set_option maxRecDepth 20000
section
attribute [local irreducible] wpList Oper.wp Calls
theorem slayer_at {w0 w : World} {L : List Ent} (S : St w0 w L) {u : Value} {qs : SLsO} {j : Nat} {q : Value × Int × SMsO} (h : ∀ e ∈ entsSL u qs, e ∈ L) (hq : qs[j]? = some q) :
    ∃ g cap, u = .slice (some ⟨g, 0, none⟩) qs.length cap ∧ (∀ w', St w0 w' L → w'.cell? ⟨g, j * 2, none⟩ = some (.int .i64 q.2.1)) ∧ (∀ w', St w0 w' L → w'.cell? ⟨g, j * 2 + 1, none⟩ = some q.1) ∧ (∀ w', St w0 w' L → SeesSMs w' q.1 (q.2.2.map smO)) := by
  obtain ⟨p, hp⟩ : ∃ p, At L p (.row 105 2 u qs.length (cellsSL qs)) := List.getElem?_of_mem (h _ List.mem_cons_self)
  have hj := (List.getElem?_eq_some_iff.1 hq).1
  obtain ⟨g, cap, rfl, hc, hm⟩ := S.rowAt hp (by omega)
  have e : ∀ i, i < 2 → (cellsSL qs)[j * 2 + i]? = (cellSL q)[i]? := fun i hi => by
    rw [cellsSL, chunk_get cellSL 2 (fun _ => rfl) qs j i hi, hq]; rfl
  have hr : ∀ e ∈ rowSL q, e ∈ L := fun e he => h _ (List.mem_cons_of_mem _ (List.mem_flatMap.2 ⟨q, List.mem_of_getElem? hq, he⟩))
  refine ⟨g, cap, rfl, fun w' S' => ?_, fun w' S' => ?_, fun w' S' => sees_sms S' hr⟩
  · exact (S'.rowCell hp (j * 2) (by omega)).trans ((e 0 (by omega)).trans rfl)
  · exact (S'.rowCell hp (j * 2 + 1) (by omega)).trans ((e 1 (by omega)).trans rfl)
theorem C_spec_Run_of (CS : ∀ (a b c x : SMx) (s : Int) (t u v : Value) (w0 : World), SeesSMs w0 t [a, b, c] → Ints w0 u x.a.xs → Ints w0 v x.b.xs → mixOk [a, b, c] x s = true → Calls Tryz.prog 11 #[t, .agg #[.int .i64 (x).a.r, .int .i64 (x).a.c, u, .int .i64 (x).b.r, .int .i64 (x).b.c, v], .int .i64 s] w0 (MakesScl w0 (mixS a b c x s)))
    (ls : List SLy) (x : SMx) (s : Int) (t u v : Value) (z : Scd) (w0 : World) (ht : SeesSLs w0 t ls) (hn1 : ls.length ≤ 1048576) (hsm : ∀ l ∈ ls, SLySmall 1048576 l) (hu : Ints w0 u x.a.xs) (hv : Ints w0 v x.b.xs) (hok : runOk ls x s = true) (hz : runFromS ls x s = z) :
    Calls Tryz.prog 32 #[t, .agg #[.int .i64 (x).a.r, .int .i64 (x).a.c, u, .int .i64 (x).b.r, .int .i64 (x).b.c, v], .int .i64 s] w0 (MakesScl w0 z) := by
  unfold MakesScl
  simp only [runOk, Bool.and_eq_true] at hok
  obtain ⟨⟨⟨hj, hx⟩, hs⟩, hside⟩ := hok
  obtain ⟨⟨p1, p2⟩, hp⟩ := Option.isSome_iff_exists.1 hside
  have fx := ok_few hx
  have hjr : joinRes ls = (true, ls.map joinLy) ∧ ls.length ≤ 4 := by
    unfold joinRes at hj ⊢
    split at hj
    · rename_i h
      rw [if_pos h]
      simp only [Bool.and_eq_true, decide_eq_true_eq] at h
      exact ⟨rfl, h.1⟩
    · cases hj
  obtain ⟨hjr, h4⟩ := hjr
  rw [hjr] at hp
  dsimp only at hp
  obtain ⟨_, _, _, hsides⟩ := sides_some hp
  have CN := fun v w h => C_spec_NetSides v (ls.map joinLy) x.a.r x.a.c (some (p1, p2)) w h hp
  unfold sidesRes at CN
  dsimp only at CN
  have CJ := fun v w h => C_spec_JoinNet v ls true (ls.map joinLy) w h hn1 hsm hjr
  have CO := fun w h h' => C_l1OwnSharedMatrix x.a.r x.a.c x.a.xs x.b.r x.b.c x.b.xs u v w h h' (by omega) (by omega)
  have CL := fun w h => C_l1OwnSharedLayerList t ls w h hn1 hsm
  have CV := fun w => C_l1InT s 1 2147483646 w (seedOk_bd hs)
  unfold MakesSMx at CO
  have HXO := Lib.hid hx
  have HU := Lib.hid hu
  have HV := Lib.hid hv
  have HT := Lib.hid ht
  have HS := Lib.hid hs
  have HD := Lib.hid hsides
  have H4 := Lib.hid h4
  have HZ := Lib.hid hz
  clear hz hu hv ht hx hs hn1 hsm hj hjr hp hside hsides h4 fx
  obtain ⟨L, HL, S⟩ := st_start w0; have F : True := trivial
  go_enter Tryz.func32, Tryz.ntmps32
  go_upto_region 1 with (first | (refine qbd 4 HL S ?_; clear F S HL; intro gx w L HL S F) | (refine qal HL S zSMx ?_; clear F S HL; intro g6 w L HL S F))
  (rw [HL.out] at S; have T := (S.toObj (p := 0) rfl); clear S HL F; have S := T; clear T; (try simp only [List.set_cons_zero, List.set_cons_succ] at S); obtain ⟨L, hM, T⟩ := st_name S; clear S; have S := T; clear T; have HL := Lib.hid hM; clear hM; have F := qFc HL S)
  go_upto_region 2 with (first | (go_at_call 77; refine (CL _ (HT.out.at_ S)).mono ?_; rintro e w ⟨u, ps, rfl, hps, T0⟩; have HPS := Lib.hid hps; clear hps; obtain ⟨Au, cu, rfl, hcu, hmu⟩ := T0.sliceOf (p := 0) (show At _ 0 _ from rfl); obtain ⟨L, hM, T⟩ := st_name ((S.call T0).perm List.perm_append_comm); clear T0; clear F S; replace HL := qNm HL hM; clear hM; have S := T; clear T; have F := qFc HL S))
  go_upto_region 3 with (first | refine qLb6 S ?_ | (go_at_call 42; refine (CO _ (HU.out.at_ S) (HV.out.at_ S)).mono ?_; rintro e w ⟨u, v, rfl, T0⟩; have hX := qcl HL S T0; clear F S HL T0; obtain ⟨L, HL, S, F⟩ := hX; obtain ⟨A', cap', rfl, hcap', hmax'⟩ := qSl HL S 0; obtain ⟨A', cap', rfl, hcap', hmax'⟩ := qSl HL S 1) | (refine qst HL S 3 ?_; clear F S HL; intro w L HL S F))
  clear CO CL
  go_upto_region 4 with (first | (refine wpList_empty rfl S _ rfl 3 Tryz.underlying23 infoInt ?_; clear F S; intro gl w L hM S; replace HL := qNm HL hM; clear hM; have F := qFc HL S))
  go_upto_region 5 with (first | (go_at_call 78; refine (CJ _ _ (HPS.out ▸ sees_sls S (by rw [HL.out]; intro e he; simp [he]))).mono ?_; rintro e w ⟨ju, js, rfl, hjs, T0⟩; have HJS := Lib.hid hjs; obtain ⟨L, hM, T⟩ := st_name ((S.call T0).perm List.perm_append_comm); clear T0 hjs; clear F S; replace HL := qNm HL hM; clear hM; have S := T; clear T; have F := qFc HL S))
  clear CJ
  go_upto_region 6 with (first | (go_at_call 79; refine qGr S (CN _ _ (HJS.out ▸ sees_ls S (by rw [HL.out]; intro e he; simp [he]))) ?_; clear S; intro w S))
  clear CN
  go_upto_region 8 with (first | refine qLb6 S ?_ | (go_at_call 44; refine qPu (CV _) ?_) | (go_at_call 43; refine qGr S (C_spec_SharedMatrixValid _ _ _ _ _ _ _ _ _ _ (by exact (Sees.row S qAt)) (by exact (Sees.row S qAt)) (by exact HXO.out)) ?_; clear S; intro w S))
  clear CV
  have hpl : ps.length ≤ 4 := by have := H4.out; rw [← HPS.out, List.length_map] at this; exact this
  go_wp2
  go_loopw [15, 9, 2] (fun i o sd wr => ∃ (j : Nat) (y : SMx) (O : List Int) (Ya Yb : Option Addr) (ca cb : Nat) (sv : Int) (L : List Ent), j ≤ ps.length ∧ i = .int .i64 j ∧ sd = .int .i64 sv ∧ Hid (y.ok = true ∧ seedOk sv = true ∧ sidesFrom ((ls.drop j).map joinLy) y.a.r y.a.c = some (p1, p2) ∧ z = ⟨(runFromS (ls.drop j) y sv).m, O ++ (runFromS (ls.drop j) y sv).os, (runFromS (ls.drop j) y sv).last⟩ ∧ O.length ≤ j * 600) ∧ Hid (L = .row 3 1 o O.length (ints O) :: .row 3 1 (.slice Yb y.b.xs.length cb) y.b.xs.length (ints y.b.xs) :: .row 3 1 (.slice Ya y.a.xs.length ca) y.a.xs.length (ints y.a.xs) :: .obj g6 (.cells #[.int .i64 0, .int .i64 0, .slice none 0 0, .int .i64 0, .int .i64 0, .slice none 0 0] 32 (0, 0)) :: .box gx 32 [.int .i64 y.a.r, .int .i64 y.a.c, .slice Ya y.a.xs.length ca, .int .i64 y.b.r, .int .i64 y.b.c, .slice Yb y.b.xs.length cb] :: entsSL (.slice Au ps.length cu) ps) ∧ St w0 wr L) (fun i _ _ _ => ps.length - (intOf i).toNat)
  case atStart => exact ⟨0, x, [], _, _, _, _, s, _, Nat.zero_le _, rfl, rfl, Lib.hid ⟨HXO.out, HS.out, HD.out, by rw [← HZ.out]; rfl, Nat.zero_le _⟩, Lib.hid rfl, by rw [HL.out] at S; exact S.sub (.cons_cons _ (.cons_cons _ (.cons_cons _ (.cons_cons _ (.cons_cons _ (List.sublist_append_left _ _))))))⟩
  case round =>
    clear F HL S HS HZ HD HXO
    obtain ⟨j, y, O, Ya, Yb, ca, cb, sv, L, hj, rfl, rfl, HR, HL, S⟩ := hrel
    have F := factsAll HL S
    simp only [factsOf, cellsFrom, and_true, true_and, Nat.reduceAdd] at F
    obtain ⟨hok, hsv, hsd, hrun, hO⟩ := HR.out
    by_cases hlt : j < ps.length
    · have hent : ∀ e ∈ entsSL (.slice Au ps.length cu) ps, e ∈ L := by rw [HL.out]; intro e he; simp [he]
      obtain ⟨⟨qu, qk, qp⟩, hq⟩ := some_at rfl hlt
      obtain ⟨ga, ca', he, f1, f2, f3⟩ := slayer_at S hent hq
      simp only [Value.slice.injEq, true_and] at he
      obtain ⟨rfl, rfl⟩ := he
      dsimp only at f1 f2 f3
      obtain ⟨l, hly⟩ : ∃ l, slyO (qu, qk, qp) = l := ⟨_, rfl⟩
      have hl : ls[j]? = some l := by rw [← HPS.out, List.getElem?_map, hq, ← hly]; rfl
      rw [drop_at hl] at hsd hrun
      rw [List.map_cons] at hsd
      obtain ⟨jx0, jx1, jx2, _⟩ := join_smx hok
      have hsi := Mx.ok_sides jx0
      rw [jx1, jx2] at hsi
      obtain ⟨a, d', hlok, hs, _, _, hrest⟩ := from_cons hsi.1 hsi.2 hsd
      have g := step_good hlok hok hsv hs
      obtain ⟨n1, n2, n3⟩ := runLy_next hlok jx0 (by rw [jx1, jx2]; exact hs)
      obtain ⟨s1, s2⟩ := g.sides
      rw [n2] at s1
      rw [n3] at s2
      have few := step_few l y sv
      simp only [runFromS] at hrun
      obtain ⟨y', hy'⟩ : ∃ r, stepS l y sv = r := ⟨_, rfl⟩
      have CR := fun u v w ht hu hv => C_l17_of CS l y sv qu u v y' _ w ht hu hv hlok hok hsv hs hy'
      rw [hy'] at g s1 s2 few hrun
      rw [← hly] at CR
      unfold slyO MakesScl at CR
      dsimp only at CR
      have HNX : Hid (y'.m.ok = true ∧ seedOk y'.last = true ∧ sidesFrom ((ls.drop (j + 1)).map joinLy) y'.m.a.r y'.m.a.c = some (p1, p2) ∧ z = ⟨(runFromS (ls.drop (j + 1)) y'.m y'.last).m, (O ++ y'.os) ++ (runFromS (ls.drop (j + 1)) y'.m y'.last).os, (runFromS (ls.drop (j + 1)) y'.m y'.last).last⟩ ∧ (O ++ y'.os).length ≤ (j + 1) * 600) := Lib.hid ⟨g.ok, g.seed, by rw [s1, s2]; exact hrest, by rw [List.append_assoc]; exact hrun, by rw [List.length_append]; omega⟩
      have HB := Lib.hid (And.intro few hO)
      clear HR hsd hrun hsi hlok hs hrest n1 n2 n3 s1 s2 hok hsv hl hent hq hly g few hO jx0 jx1 jx2 hy'
      go_upto_region 11 with fail
      (try simp only [Act.put, qP0, qP1, qP2])
      go_cut [16, 17, 18] (fun t o sd w => ∃ (gN : Nat) (A B : Option Addr) (o' : Value) (c d : Nat), t = .pointer (some ⟨gN, 0, none⟩) ∧ o = o' ∧ sd = .int .i64 y'.last ∧ St w0 w (.box gN 32 [.int .i64 y'.m.a.r, .int .i64 y'.m.a.c, .slice A y'.m.a.xs.length c, .int .i64 y'.m.b.r, .int .i64 y'.m.b.c, .slice B y'.m.b.xs.length d] :: .row 3 1 o' y'.os.length (ints y'.os) :: .row 3 1 (.slice B y'.m.b.xs.length d) y'.m.b.xs.length (ints y'.m.b.xs) :: .row 3 1 (.slice A y'.m.a.xs.length c) y'.m.a.xs.length (ints y'.m.a.xs) :: L))
      case first =>
        have HL0 := HL; have F0 := F; refine wp_region_tree (S := fun w' => St w0 w' L) (qcs 0 6 (.act 6 (qcs 7 4 (.act 11 (.act 12 (.calm 13 (.calm 14 .fin)) .stop) .stop)) (.act 11 (.act 6 (qcs 7 4 (.act 12 (.calm 13 (.calm 14 .fin)) .stop)) .stop) .stop))) (by kernel_rfl) (by kernel_rfl) (by kernel_rfl) (by intro c a d v w h; cases d <;> exact h) ?_; dsimp only [qcs, Nat.reduceAdd]; replace S := S.drew
        repeat' (first | refine qTb6 ?_ | refine qCa ?_ | refine qAn ?_ | refine qSk ?_ | exact tree_stop | (refine tree_act rfl rfl ?_ ?_) | (intro K hK; (refine qaw HL S zSMx ?_; clear F S HL; intro g w L HL S F); (refine qKo hK ?_; clear hK K)) | (intro K hK; (refine qsw HL S 0 ?_; clear F S HL; intro w L HL S F); (refine qKo hK ?_; clear hK K)) | (intro K hK; (refine qsw HL S 3 ?_; clear F S HL; intro w L HL S F); (refine qKo hK ?_; clear hK K)) | (intro K hK; go_wp2_with (first | (go_at_call 80; refine (CR _ _ _ (by first | exact f3 _ S | exact f3 _ (S.sub (by rw [HL.out, HL0.out]; exact List.sublist_cons_self _ _))) (Sees.row S qAt) (Sees.row S qAt)).mono ?_; rintro e w ⟨u1, v1, o1, rfl, T0⟩; have hX := qcl HL S T0; clear F S HL T0; obtain ⟨L, HL, S, F⟩ := hX; obtain ⟨A', cap', rfl, hcap', hmax'⟩ := qSl HL S 1; obtain ⟨A', cap', rfl, hcap', hmax'⟩ := qSl HL S 2)); (refine qKo hK ?_; clear hK K)))
        all_goals
          refine tree_fin ?_
          go_wp2_with fail
          go_meet
          rw [HL0.out]
          rw [HL.out] at S
          exact ⟨_, _, _, _, _, _, rfl, rfl, rfl, S.sel (by exact qQ4)⟩
      case rest =>
      obtain ⟨gN, A, B, o', c, d, rfl, rfl, rfl, T0⟩ := hcut
      clear f1 f2 f3 CR
      obtain ⟨L, hM, T⟩ := st_name T0
      clear T0
      clear F S; replace HL := qNm HL hM; clear hM; have S := T; clear T; have F := qFc HL S
      obtain ⟨few, hO⟩ := HB.out
      go_upto_region 13 with (first | refine qLb6 S ?_ | (refine qst HL S 8 ?_; clear F S HL; intro w L HL S F))
      go_upto_region 14 with fail
      go_wp2_with (first | (refine wpList_append_see rfl S _ _ _ rfl 4 3 _ 1 8 Tryz.underlying23 infoInt rfl (by omega) _ _ _ rfl (atOf HL rfl) _ _ _ rfl (by exact (Sees.row S qAt)) (ints_one _) (by simp only [maxLen]; omega) (by omega) ?_; clear F S; intro u' w L hM S; replace HL := qNm HL hM; clear hM; have F := qFc HL S))
      go_roundw
      case rel =>
        refine ⟨j + 1, y'.m, O ++ y'.os, A, B, c, d, y'.last, _, by omega, by go_num, rfl, HNX, Lib.hid rfl, ?_⟩
        rw [HL.out] at S
        rw [ints_append, List.length_append]
        exact S.sel (Sel.cons 4 rfl (Sel.cons 2 rfl (Sel.cons 2 rfl (Sel.cons 4 rfl (Sel.cons 4 rfl (Sel.tail (.cons _ (.cons _ (.cons _ (.cons _ (.refl _)))))))))))
      case measure => simp [intOf]; omega
    · obtain rfl : j = ps.length := by omega
      have hll : ls.length = ps.length := by rw [← HPS.out, List.length_map]
      rw [List.drop_of_length_le (by omega)] at hrun
      simp only [runFromS, List.append_nil] at hrun
      subst hrun
      clear HR hsd hok hsv hll
      (rw [HL.out] at S; have T := (S.toBox (p := 3) rfl); clear S HL F; have S := T; clear T; (try simp only [List.set_cons_zero, List.set_cons_succ] at S); obtain ⟨L, hM, T⟩ := st_name S; clear S; have S := T; clear T; have HL := Lib.hid hM; clear hM; have F := qFc HL S)
      go_wp2_with (first | refine qLb6 S ?_ | (refine qst HL S 3 ?_; clear F S HL; intro w L HL S F))
      refine ret3 rfl (resCell S HL 3 rfl rfl (by kernel_rfl)) (show _ = _ from rfl) (show _ = _ from rfl) rfl ?_
      exact ⟨_, _, _, rfl, by rw [HL.out] at S; exact S.sub (.cons_cons _ (.cons_cons _ (.cons_cons _ (List.nil_sublist _))))⟩
theorem C_spec_Run_bad (ls : List SLy) (x : SMx) (s : Int) (t u v : Value) (w0 : World) (ht : SeesSLs w0 t ls) (hn1 : ls.length ≤ 1048576) (hsm : ∀ l ∈ ls, SLySmall 1048576 l) (hu : Ints w0 u x.a.xs) (hv : Ints w0 v x.b.xs) (n1 : x.a.xs.length ≤ 1048576) (n2 : x.b.xs.length ≤ 1048576) (hok : runOk ls x s = false) :
    Calls Tryz.prog 32 #[t, .agg #[.int .i64 (x).a.r, .int .i64 (x).a.c, u, .int .i64 (x).b.r, .int .i64 (x).b.c, v], .int .i64 s] w0 (MakesScl w0 ⟨SMx.zero, [], 0⟩) := by
  unfold MakesScl
  unfold runOk at hok
  obtain ⟨⟨bj, jl⟩, hjr⟩ : ∃ p, joinRes ls = p := ⟨_, rfl⟩
  rw [hjr] at hok
  dsimp only at hok
  obtain ⟨zs, hzs⟩ : ∃ z, netSides jl x.a.r x.a.c = z := ⟨_, rfl⟩
  rw [hzs] at hok
  have CN := fun v w h => C_spec_NetSides v jl x.a.r x.a.c zs w h hzs
  have CJ := fun v w h => C_spec_JoinNet v ls bj jl w h hn1 hsm hjr
  have CO := fun w h h' => C_l1OwnSharedMatrix x.a.r x.a.c x.a.xs x.b.r x.b.c x.b.xs u v w h h' n1 n2
  have CL := fun w h => C_l1OwnSharedLayerList t ls w h hn1 hsm
  have CV : ∀ w : World, Calls Tryz.prog 44 #[.int .i64 s, .int .i64 1, .int .i64 2147483646] w fun e w' => e = .returned (.bool (seedOk s)) ∧ w = w' := fun w => C_spec_l1In s 1 2147483646 w
  unfold MakesSMx at CO
  obtain ⟨bx, hbx⟩ : ∃ b, x.ok = b := ⟨_, rfl⟩
  obtain ⟨bs, hbs⟩ : ∃ b, seedOk s = b := ⟨_, rfl⟩
  rw [hbx, hbs] at hok
  rw [hbs] at CV
  have HXO := Lib.hid hbx
  have HU := Lib.hid hu
  have HV := Lib.hid hv
  have HT := Lib.hid ht
  clear hu hv ht hn1 hsm hjr hzs hbx hbs n1 n2
  unfold sidesRes at CN
  cases bj with
  | false =>
    cases zs with
    | none =>
      dsimp only at CN
      clear hok
      obtain ⟨L, HL, S⟩ := st_start w0; have F : True := trivial
      go_enter Tryz.func32, Tryz.ntmps32
      go_upto_region 1 with (first | (refine qbd 4 HL S ?_; clear F S HL; intro gx w L HL S F) | (refine qal HL S zSMx ?_; clear F S HL; intro g6 w L HL S F))
      go_upto_region 2 with (first | (go_at_call 77; refine (CL _ (HT.out.at_ S)).mono ?_; rintro e w ⟨u, ps, rfl, hps, T0⟩; have HPS := Lib.hid hps; clear hps; obtain ⟨Au, cu, rfl, hcu, hmu⟩ := T0.sliceOf (p := 0) (show At _ 0 _ from rfl); obtain ⟨L, hM, T⟩ := st_name ((S.call T0).perm List.perm_append_comm); clear T0; clear F S; replace HL := qNm HL hM; clear hM; have S := T; clear T; have F := qFc HL S))
      go_upto_region 3 with (first | refine qLb6 S ?_ | (go_at_call 42; refine (CO _ (HU.out.at_ S) (HV.out.at_ S)).mono ?_; rintro e w ⟨u, v, rfl, T0⟩; have hX := qcl HL S T0; clear F S HL T0; obtain ⟨L, HL, S, F⟩ := hX; obtain ⟨A', cap', rfl, hcap', hmax'⟩ := qSl HL S 0; obtain ⟨A', cap', rfl, hcap', hmax'⟩ := qSl HL S 1) | (refine qst HL S 3 ?_; clear F S HL; intro w L HL S F))
      go_upto_region 4 with (first | (refine wpList_empty rfl S _ rfl 3 Tryz.underlying23 infoInt ?_; clear F S; intro gl w L hM S; replace HL := qNm HL hM; clear hM; have F := qFc HL S))
      go_upto_region 5 with (first | (go_at_call 78; refine (CJ _ _ (HPS.out ▸ sees_sls S (by rw [HL.out]; intro e he; simp [he]))).mono ?_; rintro e w ⟨ju, js, rfl, hjs, T0⟩; have HJS := Lib.hid hjs; obtain ⟨L, hM, T⟩ := st_name ((S.call T0).perm List.perm_append_comm); clear T0 hjs; clear F S; replace HL := qNm HL hM; clear hM; have S := T; clear T; have F := qFc HL S))
      go_upto_region 6 with (first | (go_at_call 79; refine qGr S (CN _ _ (HJS.out ▸ sees_ls S (by rw [HL.out]; intro e he; simp [he]))) ?_; clear S; intro w S))
      go_wp2_with (first | refine qLb6 S ?_ | (go_at_call 44; refine qPu (CV _) ?_) | (go_at_call 43; refine qGr S (C_spec_SharedMatrixValid _ _ _ _ _ _ _ _ _ _ (by exact (Sees.row S qAt)) (by exact (Sees.row S qAt)) (by exact HXO.out)) ?_; clear S; intro w S) | (refine wpList_empty rfl S _ rfl 3 Tryz.underlying23 infoInt ?_; clear F S; intro gl2 w L hM S; replace HL := qNm HL hM; clear hM; have F := qFc HL S) | (refine qst HL S 3 ?_; clear F S HL; intro w L HL S F) | (refine qst HL S 4 ?_; clear F S HL; intro w L HL S F))
      first
        | (refine ret3 rfl (resCell S HL 3 rfl rfl (by kernel_rfl)) (show _ = _ from rfl) (show _ = _ from rfl) rfl ?_)
        | (refine ret3 rfl (resCell S HL 4 rfl rfl (by kernel_rfl)) (show _ = _ from rfl) (show _ = _ from rfl) rfl ?_)
      exact ⟨_, _, _, rfl, by rw [HL.out] at S; exact ((S.nilRow 3 1).nilRow 3 1).sel (Sel.cons 2 rfl (Sel.cons 0 rfl (Sel.cons 0 rfl Sel.nil)))⟩
    | some p =>
      obtain ⟨p1, p2⟩ := p
      dsimp only at CN
      clear hok
      obtain ⟨L, HL, S⟩ := st_start w0; have F : True := trivial
      go_enter Tryz.func32, Tryz.ntmps32
      go_upto_region 1 with (first | (refine qbd 4 HL S ?_; clear F S HL; intro gx w L HL S F) | (refine qal HL S zSMx ?_; clear F S HL; intro g6 w L HL S F))
      go_upto_region 2 with (first | (go_at_call 77; refine (CL _ (HT.out.at_ S)).mono ?_; rintro e w ⟨u, ps, rfl, hps, T0⟩; have HPS := Lib.hid hps; clear hps; obtain ⟨Au, cu, rfl, hcu, hmu⟩ := T0.sliceOf (p := 0) (show At _ 0 _ from rfl); obtain ⟨L, hM, T⟩ := st_name ((S.call T0).perm List.perm_append_comm); clear T0; clear F S; replace HL := qNm HL hM; clear hM; have S := T; clear T; have F := qFc HL S))
      go_upto_region 3 with (first | refine qLb6 S ?_ | (go_at_call 42; refine (CO _ (HU.out.at_ S) (HV.out.at_ S)).mono ?_; rintro e w ⟨u, v, rfl, T0⟩; have hX := qcl HL S T0; clear F S HL T0; obtain ⟨L, HL, S, F⟩ := hX; obtain ⟨A', cap', rfl, hcap', hmax'⟩ := qSl HL S 0; obtain ⟨A', cap', rfl, hcap', hmax'⟩ := qSl HL S 1) | (refine qst HL S 3 ?_; clear F S HL; intro w L HL S F))
      go_upto_region 4 with (first | (refine wpList_empty rfl S _ rfl 3 Tryz.underlying23 infoInt ?_; clear F S; intro gl w L hM S; replace HL := qNm HL hM; clear hM; have F := qFc HL S))
      go_upto_region 5 with (first | (go_at_call 78; refine (CJ _ _ (HPS.out ▸ sees_sls S (by rw [HL.out]; intro e he; simp [he]))).mono ?_; rintro e w ⟨ju, js, rfl, hjs, T0⟩; have HJS := Lib.hid hjs; obtain ⟨L, hM, T⟩ := st_name ((S.call T0).perm List.perm_append_comm); clear T0 hjs; clear F S; replace HL := qNm HL hM; clear hM; have S := T; clear T; have F := qFc HL S))
      go_upto_region 6 with (first | (go_at_call 79; refine qGr S (CN _ _ (HJS.out ▸ sees_ls S (by rw [HL.out]; intro e he; simp [he]))) ?_; clear S; intro w S))
      go_wp2_with (first | refine qLb6 S ?_ | (go_at_call 44; refine qPu (CV _) ?_) | (go_at_call 43; refine qGr S (C_spec_SharedMatrixValid _ _ _ _ _ _ _ _ _ _ (by exact (Sees.row S qAt)) (by exact (Sees.row S qAt)) (by exact HXO.out)) ?_; clear S; intro w S) | (refine wpList_empty rfl S _ rfl 3 Tryz.underlying23 infoInt ?_; clear F S; intro gl2 w L hM S; replace HL := qNm HL hM; clear hM; have F := qFc HL S) | (refine qst HL S 3 ?_; clear F S HL; intro w L HL S F) | (refine qst HL S 4 ?_; clear F S HL; intro w L HL S F))
      first
        | (refine ret3 rfl (resCell S HL 3 rfl rfl (by kernel_rfl)) (show _ = _ from rfl) (show _ = _ from rfl) rfl ?_)
        | (refine ret3 rfl (resCell S HL 4 rfl rfl (by kernel_rfl)) (show _ = _ from rfl) (show _ = _ from rfl) rfl ?_)
      exact ⟨_, _, _, rfl, by rw [HL.out] at S; exact ((S.nilRow 3 1).nilRow 3 1).sel (Sel.cons 2 rfl (Sel.cons 0 rfl (Sel.cons 0 rfl Sel.nil)))⟩
  | true =>
    cases zs with
    | none =>
      dsimp only at CN
      clear hok
      obtain ⟨L, HL, S⟩ := st_start w0; have F : True := trivial
      go_enter Tryz.func32, Tryz.ntmps32
      go_upto_region 1 with (first | (refine qbd 4 HL S ?_; clear F S HL; intro gx w L HL S F) | (refine qal HL S zSMx ?_; clear F S HL; intro g6 w L HL S F))
      go_upto_region 2 with (first | (go_at_call 77; refine (CL _ (HT.out.at_ S)).mono ?_; rintro e w ⟨u, ps, rfl, hps, T0⟩; have HPS := Lib.hid hps; clear hps; obtain ⟨Au, cu, rfl, hcu, hmu⟩ := T0.sliceOf (p := 0) (show At _ 0 _ from rfl); obtain ⟨L, hM, T⟩ := st_name ((S.call T0).perm List.perm_append_comm); clear T0; clear F S; replace HL := qNm HL hM; clear hM; have S := T; clear T; have F := qFc HL S))
      go_upto_region 3 with (first | refine qLb6 S ?_ | (go_at_call 42; refine (CO _ (HU.out.at_ S) (HV.out.at_ S)).mono ?_; rintro e w ⟨u, v, rfl, T0⟩; have hX := qcl HL S T0; clear F S HL T0; obtain ⟨L, HL, S, F⟩ := hX; obtain ⟨A', cap', rfl, hcap', hmax'⟩ := qSl HL S 0; obtain ⟨A', cap', rfl, hcap', hmax'⟩ := qSl HL S 1) | (refine qst HL S 3 ?_; clear F S HL; intro w L HL S F))
      go_upto_region 4 with (first | (refine wpList_empty rfl S _ rfl 3 Tryz.underlying23 infoInt ?_; clear F S; intro gl w L hM S; replace HL := qNm HL hM; clear hM; have F := qFc HL S))
      go_upto_region 5 with (first | (go_at_call 78; refine (CJ _ _ (HPS.out ▸ sees_sls S (by rw [HL.out]; intro e he; simp [he]))).mono ?_; rintro e w ⟨ju, js, rfl, hjs, T0⟩; have HJS := Lib.hid hjs; obtain ⟨L, hM, T⟩ := st_name ((S.call T0).perm List.perm_append_comm); clear T0 hjs; clear F S; replace HL := qNm HL hM; clear hM; have S := T; clear T; have F := qFc HL S))
      go_upto_region 6 with (first | (go_at_call 79; refine qGr S (CN _ _ (HJS.out ▸ sees_ls S (by rw [HL.out]; intro e he; simp [he]))) ?_; clear S; intro w S))
      go_wp2_with (first | refine qLb6 S ?_ | (go_at_call 44; refine qPu (CV _) ?_) | (go_at_call 43; refine qGr S (C_spec_SharedMatrixValid _ _ _ _ _ _ _ _ _ _ (by exact (Sees.row S qAt)) (by exact (Sees.row S qAt)) (by exact HXO.out)) ?_; clear S; intro w S) | (refine wpList_empty rfl S _ rfl 3 Tryz.underlying23 infoInt ?_; clear F S; intro gl2 w L hM S; replace HL := qNm HL hM; clear hM; have F := qFc HL S) | (refine qst HL S 3 ?_; clear F S HL; intro w L HL S F) | (refine qst HL S 4 ?_; clear F S HL; intro w L HL S F))
      first
        | (refine ret3 rfl (resCell S HL 3 rfl rfl (by kernel_rfl)) (show _ = _ from rfl) (show _ = _ from rfl) rfl ?_)
        | (refine ret3 rfl (resCell S HL 4 rfl rfl (by kernel_rfl)) (show _ = _ from rfl) (show _ = _ from rfl) rfl ?_)
      exact ⟨_, _, _, rfl, by rw [HL.out] at S; exact ((S.nilRow 3 1).nilRow 3 1).sel (Sel.cons 2 rfl (Sel.cons 0 rfl (Sel.cons 0 rfl Sel.nil)))⟩
    | some p =>
      obtain ⟨p1, p2⟩ := p
      dsimp only at CN
      cases bx with
      | false =>
        clear hok
        obtain ⟨L, HL, S⟩ := st_start w0; have F : True := trivial
        go_enter Tryz.func32, Tryz.ntmps32
        go_upto_region 1 with (first | (refine qbd 4 HL S ?_; clear F S HL; intro gx w L HL S F) | (refine qal HL S zSMx ?_; clear F S HL; intro g6 w L HL S F))
        go_upto_region 2 with (first | (go_at_call 77; refine (CL _ (HT.out.at_ S)).mono ?_; rintro e w ⟨u, ps, rfl, hps, T0⟩; have HPS := Lib.hid hps; clear hps; obtain ⟨Au, cu, rfl, hcu, hmu⟩ := T0.sliceOf (p := 0) (show At _ 0 _ from rfl); obtain ⟨L, hM, T⟩ := st_name ((S.call T0).perm List.perm_append_comm); clear T0; clear F S; replace HL := qNm HL hM; clear hM; have S := T; clear T; have F := qFc HL S))
        go_upto_region 3 with (first | refine qLb6 S ?_ | (go_at_call 42; refine (CO _ (HU.out.at_ S) (HV.out.at_ S)).mono ?_; rintro e w ⟨u, v, rfl, T0⟩; have hX := qcl HL S T0; clear F S HL T0; obtain ⟨L, HL, S, F⟩ := hX; obtain ⟨A', cap', rfl, hcap', hmax'⟩ := qSl HL S 0; obtain ⟨A', cap', rfl, hcap', hmax'⟩ := qSl HL S 1) | (refine qst HL S 3 ?_; clear F S HL; intro w L HL S F))
        go_upto_region 4 with (first | (refine wpList_empty rfl S _ rfl 3 Tryz.underlying23 infoInt ?_; clear F S; intro gl w L hM S; replace HL := qNm HL hM; clear hM; have F := qFc HL S))
        go_upto_region 5 with (first | (go_at_call 78; refine (CJ _ _ (HPS.out ▸ sees_sls S (by rw [HL.out]; intro e he; simp [he]))).mono ?_; rintro e w ⟨ju, js, rfl, hjs, T0⟩; have HJS := Lib.hid hjs; obtain ⟨L, hM, T⟩ := st_name ((S.call T0).perm List.perm_append_comm); clear T0 hjs; clear F S; replace HL := qNm HL hM; clear hM; have S := T; clear T; have F := qFc HL S))
        go_upto_region 6 with (first | (go_at_call 79; refine qGr S (CN _ _ (HJS.out ▸ sees_ls S (by rw [HL.out]; intro e he; simp [he]))) ?_; clear S; intro w S))
        go_wp2_with (first | refine qLb6 S ?_ | (go_at_call 44; refine qPu (CV _) ?_) | (go_at_call 43; refine qGr S (C_spec_SharedMatrixValid _ _ _ _ _ _ _ _ _ _ (by exact (Sees.row S qAt)) (by exact (Sees.row S qAt)) (by exact HXO.out)) ?_; clear S; intro w S) | (refine wpList_empty rfl S _ rfl 3 Tryz.underlying23 infoInt ?_; clear F S; intro gl2 w L hM S; replace HL := qNm HL hM; clear hM; have F := qFc HL S) | (refine qst HL S 3 ?_; clear F S HL; intro w L HL S F) | (refine qst HL S 4 ?_; clear F S HL; intro w L HL S F))
        first
          | (refine ret3 rfl (resCell S HL 3 rfl rfl (by kernel_rfl)) (show _ = _ from rfl) (show _ = _ from rfl) rfl ?_)
          | (refine ret3 rfl (resCell S HL 4 rfl rfl (by kernel_rfl)) (show _ = _ from rfl) (show _ = _ from rfl) rfl ?_)
        exact ⟨_, _, _, rfl, by rw [HL.out] at S; exact ((S.nilRow 3 1).nilRow 3 1).sel (Sel.cons 2 rfl (Sel.cons 0 rfl (Sel.cons 0 rfl Sel.nil)))⟩
      | true =>
        obtain rfl : bs = false := by simpa using hok
        clear hok
        obtain ⟨L, HL, S⟩ := st_start w0; have F : True := trivial
        go_enter Tryz.func32, Tryz.ntmps32
        go_upto_region 1 with (first | (refine qbd 4 HL S ?_; clear F S HL; intro gx w L HL S F) | (refine qal HL S zSMx ?_; clear F S HL; intro g6 w L HL S F))
        go_upto_region 2 with (first | (go_at_call 77; refine (CL _ (HT.out.at_ S)).mono ?_; rintro e w ⟨u, ps, rfl, hps, T0⟩; have HPS := Lib.hid hps; clear hps; obtain ⟨Au, cu, rfl, hcu, hmu⟩ := T0.sliceOf (p := 0) (show At _ 0 _ from rfl); obtain ⟨L, hM, T⟩ := st_name ((S.call T0).perm List.perm_append_comm); clear T0; clear F S; replace HL := qNm HL hM; clear hM; have S := T; clear T; have F := qFc HL S))
        go_upto_region 3 with (first | refine qLb6 S ?_ | (go_at_call 42; refine (CO _ (HU.out.at_ S) (HV.out.at_ S)).mono ?_; rintro e w ⟨u, v, rfl, T0⟩; have hX := qcl HL S T0; clear F S HL T0; obtain ⟨L, HL, S, F⟩ := hX; obtain ⟨A', cap', rfl, hcap', hmax'⟩ := qSl HL S 0; obtain ⟨A', cap', rfl, hcap', hmax'⟩ := qSl HL S 1) | (refine qst HL S 3 ?_; clear F S HL; intro w L HL S F))
        go_upto_region 4 with (first | (refine wpList_empty rfl S _ rfl 3 Tryz.underlying23 infoInt ?_; clear F S; intro gl w L hM S; replace HL := qNm HL hM; clear hM; have F := qFc HL S))
        go_upto_region 5 with (first | (go_at_call 78; refine (CJ _ _ (HPS.out ▸ sees_sls S (by rw [HL.out]; intro e he; simp [he]))).mono ?_; rintro e w ⟨ju, js, rfl, hjs, T0⟩; have HJS := Lib.hid hjs; obtain ⟨L, hM, T⟩ := st_name ((S.call T0).perm List.perm_append_comm); clear T0 hjs; clear F S; replace HL := qNm HL hM; clear hM; have S := T; clear T; have F := qFc HL S))
        go_upto_region 6 with (first | (go_at_call 79; refine qGr S (CN _ _ (HJS.out ▸ sees_ls S (by rw [HL.out]; intro e he; simp [he]))) ?_; clear S; intro w S))
        go_wp2_with (first | refine qLb6 S ?_ | (go_at_call 44; refine qPu (CV _) ?_) | (go_at_call 43; refine qGr S (C_spec_SharedMatrixValid _ _ _ _ _ _ _ _ _ _ (by exact (Sees.row S qAt)) (by exact (Sees.row S qAt)) (by exact HXO.out)) ?_; clear S; intro w S) | (refine wpList_empty rfl S _ rfl 3 Tryz.underlying23 infoInt ?_; clear F S; intro gl2 w L hM S; replace HL := qNm HL hM; clear hM; have F := qFc HL S) | (refine qst HL S 3 ?_; clear F S HL; intro w L HL S F) | (refine qst HL S 4 ?_; clear F S HL; intro w L HL S F))
        first
          | (refine ret3 rfl (resCell S HL 3 rfl rfl (by kernel_rfl)) (show _ = _ from rfl) (show _ = _ from rfl) rfl ?_)
          | (refine ret3 rfl (resCell S HL 4 rfl rfl (by kernel_rfl)) (show _ = _ from rfl) (show _ = _ from rfl) rfl ?_)
        exact ⟨_, _, _, rfl, by rw [HL.out] at S; exact ((S.nilRow 3 1).nilRow 3 1).sel (Sel.cons 2 rfl (Sel.cons 0 rfl (Sel.cons 0 rfl Sel.nil)))⟩
end
section
theorem C_spec_RunShared (ls : List SLy) (x : SMx) (s : Int) (t u v : Value) (z : Scd) (w0 : World) (ht : SeesSLs w0 t ls) (hn1 : ls.length ≤ 1048576) (hsm : ∀ l ∈ ls, SLySmall 1048576 l) (hu : Ints w0 u x.a.xs) (hv : Ints w0 v x.b.xs) (n1 : x.a.xs.length ≤ 1048576) (n2 : x.b.xs.length ≤ 1048576) (hz : runS ls x s = z) :
    Calls Tryz.prog 32 #[t, .agg #[.int .i64 (x).a.r, .int .i64 (x).a.c, u, .int .i64 (x).b.r, .int .i64 (x).b.c, v], .int .i64 s] w0 (MakesScl w0 z) := by
  cases hok : runOk ls x s with
  | false => rw [runS_not hok] at hz; subst hz; exact C_spec_Run_bad ls x s t u v w0 ht hn1 hsm hu hv n1 n2 hok
  | true => rw [runS_if hok] at hz; exact C_spec_Run_of (fun a b c x s t u v w0 h1 h2 h3 h4 => C_spec_SMix_good a b c x s t u v w0 h1 h2 h3 h4) ls x s t u v z w0 ht hn1 hsm hu hv hok hz
end
end Go.Proofs.YtjgfjfjboimgdaaGreat
