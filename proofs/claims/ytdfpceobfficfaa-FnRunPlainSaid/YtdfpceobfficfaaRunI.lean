/-
  Contract: RunPlain, the program's.
-/
import Derived.Test.YtdfpceobfficfaaRunA
import Derived.Test.YtdfpceobfficfaaMixJ
import Derived.Test.YtdfpceobfficfaaPmI
import Derived.Test.YtdfpceobfficfaaLyY
import Derived.Test.YtdfpceobfficfaaLyZ
namespace Go.Proofs.Ytdfpceobfficfaa
set_option linter.unusedSimpArgs false
set_option linter.unusedVariables false
set_option linter.unusedSectionVars false
open Go Go.RowKit
set_option maxHeartbeats 8000000
set_option maxRecDepth 20000
theorem C_impl_RunPlain (ls : List Ly) (x t : Mx) (v u : Value) (w0 : World) (h : SeesLs w0 v ls) (hx : Ints w0 u x.xs) (ht : runPlain ls x = t) :
    Calls Try.prog 29 #[v, .agg #[.int .i64 (x).r, .int .i64 (x).c, u]] w0 (MakesMx w0 t.r t.c t.xs) := by
  unfold MakesMx
  have H := Lib.hid h
  have HX := Lib.hid hx
  obtain ⟨A, cap, rfl, hcap, hmax, _⟩ := h
  obtain ⟨_, A2, cap2, rfl, hcap2, hmax2, _⟩ := hx
  obtain ⟨r, c, xs⟩ := x
  dsimp only at HX hcap2 ⊢
  cases hv : (Mx.mk r c xs).ok with
  | false =>
    obtain rfl : t = Mx.zero := ht ▸ runPlain_x hv
    have HV := Lib.hid hv
    clear ht hv
    obtain ⟨L, HL, S⟩ := st_start w0; have F : True := trivial
    go_enter Try.func29, Try.ntmps29
    go_upto_region 1 with (first | (refine wpList_box (o := { dst := some 3, op := _, type := _, pos := _, after := _, guard := _ }) rfl S _ _ rfl ?_; intro gx w L hM T; clear F S; (try rw [HL.out] at hM); clear HL; (try simp [Act.put, Act.eval, Value.cells, splice] at hM); have HL := Lib.hid hM; clear hM; have S := T; clear T; have F := factsAll HL S; (try simp only [factsOf, cellsFrom, and_true, true_and, Nat.reduceAdd] at F)) | (refine wpList_alloc rfl S 55 _ rfl zMx ?_; intro gr w L hM T; clear F S; (try rw [HL.out] at hM); clear HL; (try simp [Act.put, Act.eval, Value.cells, splice] at hM); have HL := Lib.hid hM; clear hM; have S := T; clear T; have F := factsAll HL S; (try simp only [factsOf, cellsFrom, and_true, true_and, Nat.reduceAdd] at F)))
    go_wp2_with (first | (refine wpList_store_box rfl S _ _ _ rfl 0 _ _ _ _ (atOf HL rfl) rfl _ rfl (by kernel_rfl) rfl rfl ?_; intro w L hM T; clear F S; (try rw [HL.out] at hM); clear HL; (try simp [Act.put, Act.eval, Value.cells, splice] at hM); have HL := Lib.hid hM; clear hM; have S := T; clear T; have F := factsAll HL S; (try simp only [factsOf, cellsFrom, and_true, true_and, Nat.reduceAdd] at F)) | (go_at_call 62; refine (C_impl_MatrixValid _ _ _ _ _ _ (by exact HX.out.at_ S) (by exact HV.out)).mono ?_; rintro e w ⟨rfl, hb⟩; replace S := S.grow hb; clear hb))
    ((try simp only [Exit.inBlock, Exit.then]); refine ret1 rfl (resCell S HL 0 rfl rfl (by kernel_rfl)) rfl ?_)
    exact ⟨_, rfl, S.nilMx _⟩
  | true =>
    have HV := Lib.hid hv
    obtain ⟨z, hz⟩ : ∃ z, netSides ls r c = z := ⟨_, rfl⟩
    have HZ := Lib.hid hz
    have CS := fun v w h => C_impl_NetSides v ls r c z w h HZ.out
    cases z with
    | none =>
      obtain rfl : t = Mx.zero := ht ▸ runPlain_s hz
      clear ht hv hz
      unfold sidesRes at CS
      obtain ⟨L, HL, S⟩ := st_start w0; have F : True := trivial
      go_enter Try.func29, Try.ntmps29
      go_upto_region 1 with (first | (refine wpList_box (o := { dst := some 3, op := _, type := _, pos := _, after := _, guard := _ }) rfl S _ _ rfl ?_; intro gx w L hM T; clear F S; (try rw [HL.out] at hM); clear HL; (try simp [Act.put, Act.eval, Value.cells, splice] at hM); have HL := Lib.hid hM; clear hM; have S := T; clear T; have F := factsAll HL S; (try simp only [factsOf, cellsFrom, and_true, true_and, Nat.reduceAdd] at F)) | (refine wpList_alloc rfl S 55 _ rfl zMx ?_; intro gr w L hM T; clear F S; (try rw [HL.out] at hM); clear HL; (try simp [Act.put, Act.eval, Value.cells, splice] at hM); have HL := Lib.hid hM; clear hM; have S := T; clear T; have F := factsAll HL S; (try simp only [factsOf, cellsFrom, and_true, true_and, Nat.reduceAdd] at F)))
      go_wp2_with (first | (refine wpList_store_box rfl S _ _ _ rfl 0 _ _ _ _ (atOf HL rfl) rfl _ rfl (by kernel_rfl) rfl rfl ?_; intro w L hM T; clear F S; (try rw [HL.out] at hM); clear HL; (try simp [Act.put, Act.eval, Value.cells, splice] at hM); have HL := Lib.hid hM; clear hM; have S := T; clear T; have F := factsAll HL S; (try simp only [factsOf, cellsFrom, and_true, true_and, Nat.reduceAdd] at F)) | (go_at_call 62; refine (C_impl_MatrixValid _ _ _ _ _ _ (by exact HX.out.at_ S) (by exact HV.out)).mono ?_; rintro e w ⟨rfl, hb⟩; replace S := S.grow hb; clear hb) | (go_at_call 32; refine (CS _ _ (by exact H.out.at_ S)).mono ?_; rintro e w ⟨rfl, hb⟩; replace S := S.grow hb; clear hb))
      ((try simp only [Exit.inBlock, Exit.then]); refine ret1 rfl (resCell S HL 0 rfl rfl (by kernel_rfl)) rfl ?_)
      exact ⟨_, rfl, S.nilMx _⟩
    | some p =>
      obtain ⟨x1, x2⟩ := p
      unfold sidesRes at CS
      dsimp only at CS
      obtain ⟨h4, q1, q2, hs⟩ := sides_some hz
      have hball : (decide (ls.length ≤ 4) && ls.all Ly.ok) = true := by rw [decide_eq_true h4, from_all _ _ _ _ hs]; rfl
      have HBALL := Lib.hid hball
      have ht' : runFrom ls ⟨r, c, xs⟩ = t := by
        rw [← ht]
        unfold runPlain
        dsimp only
        rw [hv, hz]
        rfl
      obtain ⟨n, hn⟩ : ∃ n, ls.length = n := ⟨_, rfl⟩
      rw [hn] at hcap h4 H ⊢
      obtain ⟨_, _, N0, _, _, _, _, _, e0, e1, e2, _⟩ := Mx.ok_nat hv
      dsimp only at e1
      have p0 : 0 < xs.length := by
        rw [e1, ← e0]
        exact Nat.mul_pos (by omega) (by omega)
      have HLX : Hid (xs.length ≤ 1048576) := Lib.hid (by omega)
      have HP0 := Lib.hid p0
      have HN := Lib.hid hn
      have HS := Lib.hid hs
      have HT := Lib.hid ht'
      clear hz hn hs ht ht' HZ hball hv e0 e1 e2 p0
      unfold maxLen at hmax
      obtain ⟨L, HL, S⟩ := st_start w0; have F : True := trivial
      go_enter Try.func29, Try.ntmps29
      go_upto_region 1 with (first | (refine wpList_box (o := { dst := some 3, op := _, type := _, pos := _, after := _, guard := _ }) rfl S _ _ rfl ?_; intro gx w L hM T; clear F S; (try rw [HL.out] at hM); clear HL; (try simp [Act.put, Act.eval, Value.cells, splice] at hM); have HL := Lib.hid hM; clear hM; have S := T; clear T; have F := factsAll HL S; (try simp only [factsOf, cellsFrom, and_true, true_and, Nat.reduceAdd] at F)) | (refine wpList_alloc rfl S 55 _ rfl zMx ?_; intro gr w L hM T; clear F S; (try rw [HL.out] at hM); clear HL; (try simp [Act.put, Act.eval, Value.cells, splice] at hM); have HL := Lib.hid hM; clear hM; have S := T; clear T; have F := factsAll HL S; (try simp only [factsOf, cellsFrom, and_true, true_and, Nat.reduceAdd] at F)))
      go_upto_region 7 with (first | (go_at_call 62; refine (C_impl_MatrixValid _ _ _ _ _ _ (by exact HX.out.at_ S) (by exact HV.out)).mono ?_; rintro e w ⟨rfl, hb⟩; replace S := S.grow hb; clear hb) | (go_at_call 32; refine (CS _ _ (by exact H.out.at_ S)).mono ?_; rintro e w ⟨rfl, hb⟩; replace S := S.grow hb; clear hb) | (go_at_call 44; refine (C_layersOfOwn _ ls true w0 _ S.below (by exact H.out) HBALL.out).mono ?_; rintro e w ⟨u, cs, rfl, hcs1, _, hif, T0⟩; obtain ⟨L, hM, T⟩ := st_name (S.call T0); clear T0; have HIF := Lib.hid hif; have HCS := Lib.hid ((hcs1 rfl).trans HN.out); clear hif hcs1; rw [HCS.out] at hM; clear F S; (try rw [HL.out] at hM); clear HL; (try simp [Act.put, Act.eval, Value.cells, splice] at hM); have HL := Lib.hid hM; clear hM; have S := T; clear T; have F := factsAll HL S; (try simp only [factsOf, cellsFrom, and_true, true_and, Nat.reduceAdd] at F); obtain ⟨Ac, cc, rfl, hcc, hmc⟩ := S.sliceOf (atOf HL (p := 0) rfl)))
      go_upto_region 8 with (first | (refine wpList_store_box rfl S _ _ _ rfl 0 _ _ _ _ (atOf HL rfl) rfl _ rfl (by kernel_rfl) rfl rfl ?_; intro w L hM T; clear F S; (try rw [HL.out] at hM); clear HL; (try simp [Act.put, Act.eval, Value.cells, splice] at hM); have HL := Lib.hid hM; clear hM; have S := T; clear T; have F := factsAll HL S; (try simp only [factsOf, cellsFrom, and_true, true_and, Nat.reduceAdd] at F)) | (refine wpList_alloc rfl S 55 _ rfl zMx ?_; intro g10 w L hM T; clear F S; (try rw [HL.out] at hM); clear HL; (try simp [Act.put, Act.eval, Value.cells, splice] at hM); have HL := Lib.hid hM; clear hM; have S := T; clear T; have F := factsAll HL S; (try simp only [factsOf, cellsFrom, and_true, true_and, Nat.reduceAdd] at F)) | (go_at_call 63; refine (C_copyMatrix _ _ _ _ _ _ (by exact HX.out.at_ S) HP0.out HLX.out).mono ?_; rintro e w ⟨u, rfl, T0⟩; obtain ⟨L, hM, T⟩ := st_name (S.call T0); clear T0; clear F S; (try rw [HL.out] at hM); clear HL; (try simp [Act.put, Act.eval, Value.cells, splice] at hM); have HL := Lib.hid hM; clear hM; have S := T; clear T; have F := factsAll HL S; (try simp only [factsOf, cellsFrom, and_true, true_and, Nat.reduceAdd] at F); obtain ⟨A', cap', rfl, hcap', hmax'⟩ := S.sliceOf (atOf HL (p := 0) rfl)))
      go_wp2
      go_loopw [39] (fun i wr => ∃ (j N : Nat) (y : Mx) (A : Option Addr) (cap : Nat) (L : List Ent), j ≤ n ∧ i = .int .i64 j ∧ N ≤ cap ∧ cap ≤ maxLen ∧ Hid (y.ok = true ∧ y.xs.length = N ∧ sidesFrom (ls.drop j) y.r y.c = some (x1, x2) ∧ runFrom (ls.drop j) y = t) ∧ Hid (L = [.row 3 1 (.slice A N cap) N (ints y.xs), .box g10 55 [.int .i64 y.r, .int .i64 y.c, .slice A N cap], .row 72 1 (.slice Ac n cc) n cs, .box gr 55 [.int .i64 0, .int .i64 0, .slice none 0 0], .box gx 55 [.int .i64 r, .int .i64 c, .slice A2 xs.length cap2]]) ∧ St w0 wr L) (fun i _ => n - (intOf i).toNat)
      case atStart => exact ⟨0, xs.length, ⟨r, c, xs⟩, A', cap', _, Nat.zero_le _, rfl, hcap', hmax', Lib.hid ⟨HV.out, rfl, HS.out, HT.out⟩, Lib.hid rfl, by rw [HL.out] at S; exact S.perm (.swap _ _ _)⟩
      case round =>
        clear S HS HT HL F CS HV HP0 HLX hcap' hmax'
        obtain ⟨j, N, y, A', cap', L, hj, rfl, hcap', hmax', HR, HL, S⟩ := hrel
        obtain ⟨yr, yc, ys⟩ := y
        dsimp only at HR HL
        have F := factsAll HL S
        simp only [factsOf, cellsFrom, and_true, true_and, Nat.reduceAdd] at F
        obtain ⟨hok, hyn, hsd, hrun⟩ := HR.out
        by_cases hlt : j < n
        · rcases S.rowShape (atOf HL (p := 2) rfl) with ⟨_, h0⟩ | ⟨gr2, cr, he, _, _⟩
          · omega
          simp only [Value.slice.injEq, true_and] at he
          obtain ⟨rfl, rfl⟩ := he
          obtain ⟨l, hl⟩ := some_at HN.out hlt
          obtain ⟨x, hx⟩ := some_at HCS.out hlt
          have hif := HIF.out j l x hl hx
          have hcell := fun w' (S' : St w0 w' L) => (S'.rowCell (atOf HL (p := 2) rfl) j (by omega)).trans hx
          rw [drop_at hl] at hsd hrun
          have hsi := Mx.ok_sides hok
          obtain ⟨a, d', hlok, hs, _, _, hrest⟩ := from_cons hsi.1 hsi.2 hsd
          obtain ⟨hnok, hnr, hnc⟩ := runLy_next hlok hok hs
          have HNX : Hid ((runLy l ⟨yr, yc, ys⟩).ok = true ∧ sidesFrom (ls.drop (j + 1)) (runLy l ⟨yr, yc, ys⟩).r (runLy l ⟨yr, yc, ys⟩).c = some (x1, x2) ∧ runFrom (ls.drop (j + 1)) (runLy l ⟨yr, yc, ys⟩) = t) := Lib.hid ⟨hnok, by rw [hnr, hnc]; exact hrest, hrun⟩
          have hcase := run_case hlok hok hs
          clear HR hsd hrun hsi hlok hs hrest hnok hnr hnc hok hl hx
          cases hcase with
          | dense R C D ws bs xs' r1 r2 c1 c2 d1 d2 lw lb lx aw ab ax =>
            obtain ⟨u, v, rfl, hu, hv⟩ := hif
            have HU := Lib.hid hu
            have HVV := Lib.hid hv
            obtain ⟨_, Au, cu, rfl, _⟩ := hu
            obtain ⟨_, Av, cv, rfl, _⟩ := hv
            obtain ⟨zs, hz⟩ : ∃ zs, denseL ws bs ys R C D = zs := ⟨_, rfl⟩
            obtain ⟨M, hM⟩ : ∃ M, R * D = M := ⟨_, rfl⟩
            have CR := fun x w h h' hx => C_runDense R C D M ws bs ys zs Au Av cu cv ws.length bs.length _ _ x rfl rfl N w h h' hx lw lb (hyn.symm.trans lx) lw lb lx r1 r2 c1 c2 d1 d2 aw ab ax hM hz
            replace HNX : Hid ((Mx.mk R D zs).ok = true ∧ sidesFrom (ls.drop (j + 1)) R D = some (x1, x2) ∧ runFrom (ls.drop (j + 1)) ⟨R, D, zs⟩ = t) := Lib.hid (by have := HNX.out; simp only [runLy, Int.toNat_natCast, hz] at this; exact this)
            have HZL : Hid (zs.length = M) := Lib.hid (by rw [← hz, ← hM]; exact denseL_len _ _ _ _ _ _)
            clear lw lb lx aw ab ax hM hz r1 r2 c1 c2 d1 d2
            have hm := m_runDense R C R 1 Au Av ws.length bs.length cu cv
            go_wp2_with (first | (refine wpList_store_box rfl S _ _ _ rfl 2 _ _ _ _ (atOf HL rfl) rfl _ rfl (by kernel_rfl) rfl rfl ?_; intro w L hM T; clear F S; (try rw [HL.out] at hM); clear HL; (try simp [Act.put, Act.eval, Value.cells, splice] at hM); have HL := Lib.hid hM; clear hM; have S := T; clear T; have F := factsAll HL S; (try simp only [factsOf, cellsFrom, and_true, true_and, Nat.reduceAdd] at F)) | (go_at_call 152; refine (CR _ _ (HU.out.at_ S) (HVV.out.at_ S) (Sees.row S (by first | exact atOf HL (p := 0) rfl | exact atOf HL (p := 1) rfl | exact atOf HL (p := 2) rfl | exact atOf HL (p := 3) rfl | exact atOf HL (p := 4) rfl | exact atOf HL (p := 5) rfl | exact atOf HL (p := 6) rfl | exact atOf HL (p := 7) rfl | exact atOf HL (p := 8) rfl | exact atOf HL (p := 9) rfl | exact atOf HL (p := 10) rfl | exact atOf HL (p := 11) rfl | exact atOf HL (p := 12) rfl | exact atOf HL (p := 13) rfl | exact atOf HL (p := 14) rfl | exact atOf HL (p := 15) rfl | exact atOf HL (p := 16) rfl | exact atOf HL (p := 17) rfl | exact atOf HL (p := 18) rfl | exact atOf HL (p := 19) rfl | exact atOf HL (p := 20) rfl | exact atOf HL (p := 21) rfl | exact atOf HL (p := 22) rfl | exact atOf HL (p := 23) rfl | exact atOf HL (p := 24) rfl | exact atOf HL (p := 25) rfl | exact atOf HL (p := 26) rfl | exact atOf HL (p := 27) rfl | exact atOf HL (p := 28) rfl | exact atOf HL (p := 29) rfl | exact atOf HL (p := 30) rfl | exact atOf HL (p := 31) rfl | exact atOf HL (p := 32) rfl | exact atOf HL (p := 33) rfl | exact atOf HL (p := 34) rfl | exact atOf HL (p := 35) rfl | exact atOf HL (p := 36) rfl | exact atOf HL (p := 37) rfl | exact atOf HL (p := 38) rfl | exact atOf HL (p := 39) rfl))).mono ?_; rintro e w ⟨u, rfl, T0⟩; obtain ⟨L, hM, T⟩ := st_name (S.call T0); clear T0; clear F S; (try rw [HL.out] at hM); clear HL; (try simp [Act.put, Act.eval, Value.cells, splice] at hM); have HL := Lib.hid hM; clear hM; have S := T; clear T; have F := factsAll HL S; (try simp only [factsOf, cellsFrom, and_true, true_and, Nat.reduceAdd] at F); obtain ⟨A', cap', rfl, hcap', hmax'⟩ := S.sliceOf (atOf HL (p := 0) rfl)))
            go_roundw
            case rel => exact ⟨j + 1, M, ⟨R, D, zs⟩, A', cap', _, by omega, by go_num, hcap', hmax', Lib.hid ⟨HNX.out.1, HZL.out, HNX.out.2.1, HNX.out.2.2⟩, Lib.hid rfl, (by rw [HL.out] at S; exact S.sub (by repeat (first | exact .refl _ | exact List.nil_sublist _ | apply List.Sublist.cons_cons | apply List.Sublist.cons)))⟩
            case measure => simp [intOf]; omega
          | ramp R C xs' r1 r2 c1 c2 lx ax =>
            obtain rfl : x = _ := hif
            obtain ⟨zs, hz⟩ : ∃ zs, mapL 2 ys = zs := ⟨_, rfl⟩
            have CR := fun x w h => C_runRamp R C N ys zs x w h (lx.symm.trans hyn) lx r1 r2 c1 c2 ax hz
            replace HNX : Hid ((Mx.mk R C zs).ok = true ∧ sidesFrom (ls.drop (j + 1)) R C = some (x1, x2) ∧ runFrom (ls.drop (j + 1)) ⟨R, C, zs⟩ = t) := Lib.hid (by have := HNX.out; simp only [runLy, hz] at this; exact this)
            have HZL : Hid (zs.length = N) := Lib.hid (by rw [← hz, mapL_len]; exact hyn)
            clear lx ax hz r1 r2 c1 c2
            have hm := m_runRamp
            go_wp2_with (first | (refine wpList_store_box rfl S _ _ _ rfl 2 _ _ _ _ (atOf HL rfl) rfl _ rfl (by kernel_rfl) rfl rfl ?_; intro w L hM T; clear F S; (try rw [HL.out] at hM); clear HL; (try simp [Act.put, Act.eval, Value.cells, splice] at hM); have HL := Lib.hid hM; clear hM; have S := T; clear T; have F := factsAll HL S; (try simp only [factsOf, cellsFrom, and_true, true_and, Nat.reduceAdd] at F)) | (go_at_call 166; refine (CR _ _ (Sees.row S (by first | exact atOf HL (p := 0) rfl | exact atOf HL (p := 1) rfl | exact atOf HL (p := 2) rfl | exact atOf HL (p := 3) rfl | exact atOf HL (p := 4) rfl | exact atOf HL (p := 5) rfl | exact atOf HL (p := 6) rfl | exact atOf HL (p := 7) rfl | exact atOf HL (p := 8) rfl | exact atOf HL (p := 9) rfl | exact atOf HL (p := 10) rfl | exact atOf HL (p := 11) rfl | exact atOf HL (p := 12) rfl | exact atOf HL (p := 13) rfl | exact atOf HL (p := 14) rfl | exact atOf HL (p := 15) rfl | exact atOf HL (p := 16) rfl | exact atOf HL (p := 17) rfl | exact atOf HL (p := 18) rfl | exact atOf HL (p := 19) rfl | exact atOf HL (p := 20) rfl | exact atOf HL (p := 21) rfl | exact atOf HL (p := 22) rfl | exact atOf HL (p := 23) rfl | exact atOf HL (p := 24) rfl | exact atOf HL (p := 25) rfl | exact atOf HL (p := 26) rfl | exact atOf HL (p := 27) rfl | exact atOf HL (p := 28) rfl | exact atOf HL (p := 29) rfl | exact atOf HL (p := 30) rfl | exact atOf HL (p := 31) rfl | exact atOf HL (p := 32) rfl | exact atOf HL (p := 33) rfl | exact atOf HL (p := 34) rfl | exact atOf HL (p := 35) rfl | exact atOf HL (p := 36) rfl | exact atOf HL (p := 37) rfl | exact atOf HL (p := 38) rfl | exact atOf HL (p := 39) rfl))).mono ?_; rintro e w ⟨u, rfl, T0⟩; obtain ⟨L, hM, T⟩ := st_name (S.call T0); clear T0; clear F S; (try rw [HL.out] at hM); clear HL; (try simp [Act.put, Act.eval, Value.cells, splice] at hM); have HL := Lib.hid hM; clear hM; have S := T; clear T; have F := factsAll HL S; (try simp only [factsOf, cellsFrom, and_true, true_and, Nat.reduceAdd] at F); obtain ⟨A', cap', rfl, hcap', hmax'⟩ := S.sliceOf (atOf HL (p := 0) rfl)))
            go_roundw
            case rel => exact ⟨j + 1, N, ⟨R, C, zs⟩, A', cap', _, by omega, by go_num, hcap', hmax', Lib.hid ⟨HNX.out.1, HZL.out, HNX.out.2.1, HNX.out.2.2⟩, Lib.hid rfl, (by rw [HL.out] at S; exact S.sub (by repeat (first | exact .refl _ | exact List.nil_sublist _ | apply List.Sublist.cons_cons | apply List.Sublist.cons)))⟩
            case measure => simp [intOf]; omega
          | mix X Y a b c' xs' y1 y2 y3 y4 la lb lc lx aa ab ac ax =>
            obtain ⟨u, rfl, hu⟩ := hif
            have HU := Lib.hid hu
            obtain ⟨Au, cu, rfl, _⟩ := hu
            obtain ⟨zs, hz⟩ : ∃ zs, mixL a b c' ys X Y = zs := ⟨_, rfl⟩
            have CR := fun v w hbw h hx => C_mixRun X Y a b c' ys zs (.slice Au 3 cu) v w0 w hbw h hx y1 y2 y3 y4 la lb lc lx aa ab ac ax hz
            unfold MakesMx Ints at CR
            rw [hyn] at CR
            replace HNX : Hid ((Mx.mk X Y zs).ok = true ∧ sidesFrom (ls.drop (j + 1)) X Y = some (x1, x2) ∧ runFrom (ls.drop (j + 1)) ⟨X, Y, zs⟩ = t) := Lib.hid (by have := HNX.out; simp only [runLy, Int.toNat_natCast, hz] at this; exact this)
            simp only [List.length_cons, List.length_nil, Nat.zero_add, Nat.reduceAdd] at HU hcell
            clear la lb lc lx aa ab ac ax hz y1 y2 y3 y4
            have hm := m_runMix Au 3 cu
            go_wp2_with (first | (refine wpList_store_box rfl S _ _ _ rfl 2 _ _ _ _ (atOf HL rfl) rfl _ rfl (by kernel_rfl) rfl rfl ?_; intro w L hM T; clear F S; (try rw [HL.out] at hM); clear HL; (try simp [Act.put, Act.eval, Value.cells, splice] at hM); have HL := Lib.hid hM; clear hM; have S := T; clear T; have F := factsAll HL S; (try simp only [factsOf, cellsFrom, and_true, true_and, Nat.reduceAdd] at F)) | (go_at_call 169; refine (CR _ _ S.below HU.out (Sees.row S (by first | exact atOf HL (p := 0) rfl | exact atOf HL (p := 1) rfl | exact atOf HL (p := 2) rfl | exact atOf HL (p := 3) rfl | exact atOf HL (p := 4) rfl | exact atOf HL (p := 5) rfl | exact atOf HL (p := 6) rfl | exact atOf HL (p := 7) rfl | exact atOf HL (p := 8) rfl | exact atOf HL (p := 9) rfl | exact atOf HL (p := 10) rfl | exact atOf HL (p := 11) rfl | exact atOf HL (p := 12) rfl | exact atOf HL (p := 13) rfl | exact atOf HL (p := 14) rfl | exact atOf HL (p := 15) rfl | exact atOf HL (p := 16) rfl | exact atOf HL (p := 17) rfl | exact atOf HL (p := 18) rfl | exact atOf HL (p := 19) rfl | exact atOf HL (p := 20) rfl | exact atOf HL (p := 21) rfl | exact atOf HL (p := 22) rfl | exact atOf HL (p := 23) rfl | exact atOf HL (p := 24) rfl | exact atOf HL (p := 25) rfl | exact atOf HL (p := 26) rfl | exact atOf HL (p := 27) rfl | exact atOf HL (p := 28) rfl | exact atOf HL (p := 29) rfl | exact atOf HL (p := 30) rfl | exact atOf HL (p := 31) rfl | exact atOf HL (p := 32) rfl | exact atOf HL (p := 33) rfl | exact atOf HL (p := 34) rfl | exact atOf HL (p := 35) rfl | exact atOf HL (p := 36) rfl | exact atOf HL (p := 37) rfl | exact atOf HL (p := 38) rfl | exact atOf HL (p := 39) rfl))).mono ?_; rintro e w ⟨u, rfl, T0⟩; obtain ⟨L, hM, T⟩ := st_name (S.call T0); clear T0; clear F S; (try rw [HL.out] at hM); clear HL; (try simp [Act.put, Act.eval, Value.cells, splice] at hM); have HL := Lib.hid hM; clear hM; have S := T; clear T; have F := factsAll HL S; (try simp only [factsOf, cellsFrom, and_true, true_and, Nat.reduceAdd] at F); obtain ⟨A', cap', rfl, hcap', hmax'⟩ := S.sliceOf (atOf HL (p := 0) rfl)))
            go_roundw
            case rel => exact ⟨j + 1, zs.length, ⟨X, Y, zs⟩, A', cap', _, by omega, by go_num, hcap', hmax', Lib.hid ⟨HNX.out.1, rfl, HNX.out.2.1, HNX.out.2.2⟩, Lib.hid rfl, (by rw [HL.out] at S; exact S.sub (by repeat (first | exact .refl _ | exact List.nil_sublist _ | apply List.Sublist.cons_cons | apply List.Sublist.cons)))⟩
            case measure => simp [intOf]; omega
        · obtain rfl : j = n := by omega
          rw [List.drop_of_length_le (Nat.le_of_eq HN.out)] at hrun
          obtain rfl : t = ⟨yr, yc, ys⟩ := hrun.symm
          subst hyn
          clear hsd
          go_wp2_with (first | (refine wpList_store_box rfl S _ _ _ rfl 3 _ _ _ _ (atOf HL rfl) rfl _ rfl (by kernel_rfl) rfl rfl ?_; intro w L hM T; clear F S; (try rw [HL.out] at hM); clear HL; (try simp [Act.put, Act.eval, Value.cells, splice] at hM); have HL := Lib.hid hM; clear hM; have S := T; clear T; have F := factsAll HL S; (try simp only [factsOf, cellsFrom, and_true, true_and, Nat.reduceAdd] at F)))
          ((try simp only [Exit.inBlock, Exit.then]); refine ret1 rfl (resCell S HL 3 rfl rfl (by kernel_rfl)) rfl ?_)
          exact ⟨_, rfl, (by rw [HL.out] at S; exact S.sub (by repeat (first | exact .refl _ | exact List.nil_sublist _ | apply List.Sublist.cons_cons | apply List.Sublist.cons)))⟩
end Go.Proofs.Ytdfpceobfficfaa
