/-
  Contracts: valid layers (the reference's).
-/
import Derived.Test.YtdfpceobfficfaaLyW
namespace Go.Proofs.Ytdfpceobfficfaa
set_option linter.unusedSimpArgs false
set_option linter.unusedVariables false
set_option linter.unusedSectionVars false
open Go Go.RowKit
set_option maxHeartbeats 8000000
set_option maxRecDepth 20000
theorem Ly.ok_all {k : Int} {ms : List Mx} (h : (Ly.mk k ms).ok = true) : ms.all Mx.ok = true := by
  cases Ly.ok_case h with
  | dense w b hd =>
    simp only [denseFit, Bool.and_eq_true] at hd
    simp [hd.1.1.1, hd.1.1.2]
  | ramp => rfl
  | mix a b c hd =>
    simp only [mixFit, Bool.and_eq_true] at hd
    simp [hd.1.1.1.1.1, hd.1.1.1.1.2, hd.1.1.1.2]
theorem Ly.ok_not {k : Int} {ms : List Mx} {b : Bool} (hb : (Ly.mk k ms).ok = b) (h : ¬ (k = 1 ∧ ms.length = 2 ∨ k = 2 ∧ ms.length = 0 ∨ k = 3 ∧ ms.length = 3)) : b = false := by
  rw [← hb, ← Bool.not_eq_true]
  exact fun h' => h (Ly.ok_shape h')
theorem C_spec_LayerValid (v : Value) (kind : Int) (ms : List Mx) (b : Bool) (w0 : World) (h : SeesMs w0 v ms) (hb : (Ly.mk kind ms).ok = b) :
    Calls Try.prog 39 #[.agg #[.int .i64 kind, v]] w0 fun e w' => e = .returned (.bool b) ∧ Below w0.heap.size w0 w' := by
  obtain ⟨A, cap, rfl, hcap, hmax, hA⟩ := h
  obtain ⟨n, hn⟩ : ∃ n, ms.length = n := ⟨_, rfl⟩
  obtain ⟨p, hp, hall, hbad, hnone⟩ := first_bad Mx.ok ms
  rw [hn] at hcap hA hp hnone ⊢
  have HN := Lib.hid hn
  have HA := Lib.hid hA
  have HALL := Lib.hid hall
  have HBAD := Lib.hid hbad
  have HNONE := Lib.hid hnone
  have HB := Lib.hid hb
  clear hA hn hall hbad hnone hb
  unfold maxLen at hmax
  obtain ⟨L, HL, S⟩ := st_start w0; have F : True := trivial
  go_enter Try.func39, Try.ntmps39
  go_upto_region 1 with (first | (refine wpList_box rfl S _ _ rfl ?_; intro g w L hM T; clear F S; (try rw [HL.out] at hM); clear HL; (try simp [Act.put, Act.eval, Value.cells, splice] at hM); have HL := Lib.hid hM; clear hM; have S := T; clear T; have F := factsAll HL S; (try simp only [factsOf, cellsFrom, and_true, true_and, Nat.reduceAdd] at F)))
  go_wp2
  go_loopw [3] (fun i wr => ∃ (j : Nat), j ≤ p ∧ i = .int .i64 j ∧ St w0 wr L) (fun i _ => n - (intOf i).toNat)
  case atStart => exact ⟨0, Nat.zero_le _, rfl, S⟩
  case round =>
    clear S
    obtain ⟨j, hj, rfl, S⟩ := hrel
    by_cases hlt : j < n
    · obtain ⟨bl, off, rfl, hbl, hc⟩ := HA.out (by omega)
      obtain ⟨m, hm⟩ := some_at HN.out hlt
      obtain ⟨r, c, xs⟩ := m
      obtain ⟨u, c1, c2, c3, hu⟩ := hc j _ hm
      dsimp only at c1 c2 c3 hu
      have HU := Lib.hid hu
      obtain ⟨_, A', cap', rfl, hcap', hmax', _⟩ := hu
      have f1 := fun w' (S' : St w0 w' L) => (S'.below.cell (p := ⟨bl, off + j * 3, none⟩) hbl).trans c1
      have f2 := fun w' (S' : St w0 w' L) => (S'.below.cell (p := ⟨bl, off + j * 3 + 1, none⟩) hbl).trans c2
      have f3 := fun w' (S' : St w0 w' L) => (S'.below.cell (p := ⟨bl, off + j * 3 + 2, none⟩) hbl).trans c3
      have HMM := Lib.hid hm
      clear hc c1 c2 c3 hm
      by_cases hjp : j < p
      · have HO := Lib.hid (HALL.out j _ hjp HMM.out)
        go_wp2_with (first | (go_at_call 67; refine (C_spec_MatrixValid _ _ _ _ _ _ (by exact HU.out.at_ S) (by exact HO.out)).mono ?_; rintro e w ⟨rfl, hb⟩; replace S := S.grow hb; clear hb))
        go_roundw
        case rel => exact ⟨j + 1, by omega, by go_num, S⟩
        case measure => simp [intOf]; omega
      · obtain rfl : j = p := by omega
        obtain ⟨hg, hg2⟩ := HBAD.out _ HMM.out
        obtain rfl : b = false := by
          rw [← HB.out, ← Bool.not_eq_true]
          intro h
          rw [Ly.ok_all h] at hg2
          cases hg2
        have HO := Lib.hid hg
        clear hg hg2
        go_wp2_with (first | (go_at_call 67; refine (C_spec_MatrixValid _ _ _ _ _ _ (by exact HU.out.at_ S) (by exact HO.out)).mono ?_; rintro e w ⟨rfl, hb⟩; replace S := S.grow hb; clear hb))
        go_ret
        exact ⟨rfl, S.below⟩
    · obtain rfl : j = n := by omega
      obtain rfl : p = j := by omega
      have hallm := HNONE.out rfl
      clear HNONE HBAD HALL hj hp hlt
      have hb := HB.out
      by_cases k1 : kind = 1
      · subst k1
        by_cases hl : p = 2
        · subst hl
          obtain ⟨w, o, rfl⟩ := len2 HN.out
          obtain ⟨bl, off, rfl, hbl, hc⟩ := HA.out (by omega)
          obtain ⟨r, c, xs⟩ := w
          obtain ⟨r', c', ys⟩ := o
          obtain ⟨u, a1, a2, a3, hu⟩ := hc 0 _ rfl
          obtain ⟨u', d1, d2, d3, hu'⟩ := hc 1 _ rfl
          rw [Nat.zero_mul, Nat.add_zero] at a1 a2 a3
          rw [Nat.one_mul] at d1 d2 d3
          dsimp only at a1 a2 a3 hu d1 d2 d3 hu'
          simp only [List.all_cons, List.all_nil, Bool.and_true, Bool.and_eq_true] at hallm
          have hfit : (decide (c' = 1) && decide (r' = r)) = b := by rw [← hb]; simp [Ly.ok, denseFit, hallm.1, hallm.2]
          have q1 := fun w' (S' : St w0 w' L) => (S'.below.cell (p := ⟨bl, off, none⟩) hbl).trans a1
          have q2 := fun w' (S' : St w0 w' L) => (S'.below.cell (p := ⟨bl, off + 1, none⟩) hbl).trans a2
          have q4 := fun w' (S' : St w0 w' L) => (S'.below.cell (p := ⟨bl, off + 3, none⟩) hbl).trans d1
          have q5 := fun w' (S' : St w0 w' L) => (S'.below.cell (p := ⟨bl, off + 3 + 1, none⟩) hbl).trans d2
          clear hc HA hallm hb HB a1 a2 a3 d1 d2 d3 hu hu' HN
          go_wp2
          by_cases h1 : c' = 1
          · by_cases h2 : r' = r
            · subst h1 h2
              obtain rfl : b = true := by rw [← hfit]; simp
              clear hfit
              have HL0 := HL; have F0 := F; refine wp_region_tree (S := fun w' => St w0 w' L) (.calm 0 (.calm 1 (.calm 2 (.calm 3 (.calm 4 (.calm 5 (.calm 6 (.calm 7 (.calm 8 (.calm 9 (.calm 10 (.calm 11 (.calm 12 (.calm 13 (.calm 14 (.calm 15 (.calm 16 (.calm 17 (.calm 18 (.calm 19 (.calm 20 (.calm 21 (.calm 22 (.calm 23 (.calm 24 (.calm 25 .fin)))))))))))))))))))))))))) (by kernel_rfl) (by kernel_rfl) (by kernel_rfl) (by intro c a d v w h; cases d <;> exact h) ?_; replace S := S.drew
              repeat (first | (first | (refine tree_calm (v := ?_) ?_ rfl (by decide +kernel) rfl ?_ ?_; rotate_left; (focus (first | exact S | (refine S.sub (subL HL0 HL ?_); (repeat (first | exact List.Sublist.refl _ | apply List.Sublist.cons)); done))); (focus (intro w' hS'; (try dsimp only at hS'); go_simp; try rfl)); (try simp only [Act.put, List.setIfInBounds_toArray, List.set_cons_zero, List.set_cons_succ])) | (refine tree_any (v := ?_) ?_ rfl rfl ?_ ?_; rotate_left; (focus (first | exact S | (refine S.sub (subL HL0 HL ?_); (repeat (first | exact List.Sublist.refl _ | apply List.Sublist.cons)); done))); (focus (intro w'; go_simp; try rfl)); (try simp only [Act.put, List.setIfInBounds_toArray, List.set_cons_zero, List.set_cons_succ]))) | (refine tree_skip ?_ rfl rfl ?_; (focus (first | exact S | (refine S.sub (subL HL0 HL ?_); (repeat (first | exact List.Sublist.refl _ | apply List.Sublist.cons)); done))); (try simp only [Act.put, List.setIfInBounds_toArray, List.set_cons_zero, List.set_cons_succ])) | (refine tree_actSkip rfl rfl ?_ ?_ tree_stop; (focus (first | exact S | (refine S.sub (subL HL0 HL ?_); (repeat (first | exact List.Sublist.refl _ | apply List.Sublist.cons)); done))); (try simp only [Act.put, List.setIfInBounds_toArray, List.set_cons_zero, List.set_cons_succ])) | (refine tree_act rfl rfl ?_ tree_stop; intro K hK; go_wp2_with (first | fail); (refine hK.out _ _ ?_ ?_; (focus (first | exact fun _ => S | (intro _; refine S.sub (subL HL0 HL ?_); (repeat (first | exact List.Sublist.refl _ | apply List.Sublist.cons)); done) | (refine sink_no ?_; kernel_rfl))); clear hK K; (try simp only [Act.put, List.setIfInBounds_toArray, List.set_cons_zero, List.set_cons_succ]))))
              refine tree_fin ?_
              go_wp2
              go_ret
              exact ⟨rfl, S.below⟩
            · subst h1
              obtain rfl : b = false := by rw [← hfit]; simp [h2]
              have e2 := bne_of h2
              clear hfit
              have HL0 := HL; have F0 := F; refine wp_region_tree (S := fun w' => St w0 w' L) (.calm 0 (.calm 1 (.calm 2 (.calm 3 (.calm 4 (.calm 5 (.calm 6 (.calm 7 (.calm 8 (.calm 9 (.calm 10 (.calm 11 (.calm 12 (.calm 13 (.calm 14 (.calm 15 (.calm 16 (.calm 17 (.calm 18 (.calm 19 (.calm 20 (.calm 21 (.calm 22 (.calm 23 (.calm 24 (.calm 25 .fin)))))))))))))))))))))))))) (by kernel_rfl) (by kernel_rfl) (by kernel_rfl) (by intro c a d v w h; cases d <;> exact h) ?_; replace S := S.drew
              repeat (first | (first | (refine tree_calm (v := ?_) ?_ rfl (by decide +kernel) rfl ?_ ?_; rotate_left; (focus (first | exact S | (refine S.sub (subL HL0 HL ?_); (repeat (first | exact List.Sublist.refl _ | apply List.Sublist.cons)); done))); (focus (intro w' hS'; (try dsimp only at hS'); go_simp; try rfl)); (try simp only [Act.put, List.setIfInBounds_toArray, List.set_cons_zero, List.set_cons_succ])) | (refine tree_any (v := ?_) ?_ rfl rfl ?_ ?_; rotate_left; (focus (first | exact S | (refine S.sub (subL HL0 HL ?_); (repeat (first | exact List.Sublist.refl _ | apply List.Sublist.cons)); done))); (focus (intro w'; go_simp; try rfl)); (try simp only [Act.put, List.setIfInBounds_toArray, List.set_cons_zero, List.set_cons_succ]))) | (refine tree_skip ?_ rfl rfl ?_; (focus (first | exact S | (refine S.sub (subL HL0 HL ?_); (repeat (first | exact List.Sublist.refl _ | apply List.Sublist.cons)); done))); (try simp only [Act.put, List.setIfInBounds_toArray, List.set_cons_zero, List.set_cons_succ])) | (refine tree_actSkip rfl rfl ?_ ?_ tree_stop; (focus (first | exact S | (refine S.sub (subL HL0 HL ?_); (repeat (first | exact List.Sublist.refl _ | apply List.Sublist.cons)); done))); (try simp only [Act.put, List.setIfInBounds_toArray, List.set_cons_zero, List.set_cons_succ])) | (refine tree_act rfl rfl ?_ tree_stop; intro K hK; go_wp2_with (first | fail); (refine hK.out _ _ ?_ ?_; (focus (first | exact fun _ => S | (intro _; refine S.sub (subL HL0 HL ?_); (repeat (first | exact List.Sublist.refl _ | apply List.Sublist.cons)); done) | (refine sink_no ?_; kernel_rfl))); clear hK K; (try simp only [Act.put, List.setIfInBounds_toArray, List.set_cons_zero, List.set_cons_succ]))))
              refine tree_fin ?_
              go_wp2
              go_ret
              exact ⟨rfl, S.below⟩
          · obtain rfl : b = false := by rw [← hfit]; simp [h1]
            have e2 := bne_of h1
            clear hfit
            have HL0 := HL; have F0 := F; refine wp_region_tree (S := fun w' => St w0 w' L) (.calm 0 (.calm 1 (.calm 2 (.calm 3 (.calm 4 (.calm 5 (.calm 6 (.calm 7 (.calm 8 (.calm 9 (.calm 10 (.calm 11 (.calm 12 (.calm 13 (.calm 14 (.calm 15 (.calm 16 (.calm 17 (.calm 18 (.calm 19 (.calm 20 (.calm 21 (.calm 22 (.calm 23 (.calm 24 (.calm 25 .fin)))))))))))))))))))))))))) (by kernel_rfl) (by kernel_rfl) (by kernel_rfl) (by intro c a d v w h; cases d <;> exact h) ?_; replace S := S.drew
            repeat (first | (first | (refine tree_calm (v := ?_) ?_ rfl (by decide +kernel) rfl ?_ ?_; rotate_left; (focus (first | exact S | (refine S.sub (subL HL0 HL ?_); (repeat (first | exact List.Sublist.refl _ | apply List.Sublist.cons)); done))); (focus (intro w' hS'; (try dsimp only at hS'); go_simp; try rfl)); (try simp only [Act.put, List.setIfInBounds_toArray, List.set_cons_zero, List.set_cons_succ])) | (refine tree_any (v := ?_) ?_ rfl rfl ?_ ?_; rotate_left; (focus (first | exact S | (refine S.sub (subL HL0 HL ?_); (repeat (first | exact List.Sublist.refl _ | apply List.Sublist.cons)); done))); (focus (intro w'; go_simp; try rfl)); (try simp only [Act.put, List.setIfInBounds_toArray, List.set_cons_zero, List.set_cons_succ]))) | (refine tree_skip ?_ rfl rfl ?_; (focus (first | exact S | (refine S.sub (subL HL0 HL ?_); (repeat (first | exact List.Sublist.refl _ | apply List.Sublist.cons)); done))); (try simp only [Act.put, List.setIfInBounds_toArray, List.set_cons_zero, List.set_cons_succ])) | (refine tree_actSkip rfl rfl ?_ ?_ tree_stop; (focus (first | exact S | (refine S.sub (subL HL0 HL ?_); (repeat (first | exact List.Sublist.refl _ | apply List.Sublist.cons)); done))); (try simp only [Act.put, List.setIfInBounds_toArray, List.set_cons_zero, List.set_cons_succ])) | (refine tree_act rfl rfl ?_ tree_stop; intro K hK; go_wp2_with (first | fail); (refine hK.out _ _ ?_ ?_; (focus (first | exact fun _ => S | (intro _; refine S.sub (subL HL0 HL ?_); (repeat (first | exact List.Sublist.refl _ | apply List.Sublist.cons)); done) | (refine sink_no ?_; kernel_rfl))); clear hK K; (try simp only [Act.put, List.setIfInBounds_toArray, List.set_cons_zero, List.set_cons_succ]))))
            refine tree_fin ?_
            go_wp2
            go_ret
            exact ⟨rfl, S.below⟩
        · obtain rfl := Ly.ok_not hb (by rw [HN.out]; omega)
          have e2 := bne_of (a := (p : Int)) (b := 2) (by omega)
          clear hallm hb HB
          go_wp2
          have HL0 := HL; have F0 := F; refine wp_region_tree (S := fun w' => St w0 w' L) (.calm 0 (.calm 1 (.calm 2 (.calm 3 (.calm 4 (.calm 5 (.calm 6 (.calm 7 (.calm 8 (.calm 9 (.calm 10 (.calm 11 (.calm 12 (.calm 13 (.calm 14 (.calm 15 (.calm 16 (.calm 17 (.calm 18 (.calm 19 (.calm 20 (.calm 21 (.calm 22 (.calm 23 (.calm 24 (.calm 25 .fin)))))))))))))))))))))))))) (by kernel_rfl) (by kernel_rfl) (by kernel_rfl) (by intro c a d v w h; cases d <;> exact h) ?_; replace S := S.drew
          repeat (first | (first | (refine tree_calm (v := ?_) ?_ rfl (by decide +kernel) rfl ?_ ?_; rotate_left; (focus (first | exact S | (refine S.sub (subL HL0 HL ?_); (repeat (first | exact List.Sublist.refl _ | apply List.Sublist.cons)); done))); (focus (intro w' hS'; (try dsimp only at hS'); go_simp; try rfl)); (try simp only [Act.put, List.setIfInBounds_toArray, List.set_cons_zero, List.set_cons_succ])) | (refine tree_any (v := ?_) ?_ rfl rfl ?_ ?_; rotate_left; (focus (first | exact S | (refine S.sub (subL HL0 HL ?_); (repeat (first | exact List.Sublist.refl _ | apply List.Sublist.cons)); done))); (focus (intro w'; go_simp; try rfl)); (try simp only [Act.put, List.setIfInBounds_toArray, List.set_cons_zero, List.set_cons_succ]))) | (refine tree_skip ?_ rfl rfl ?_; (focus (first | exact S | (refine S.sub (subL HL0 HL ?_); (repeat (first | exact List.Sublist.refl _ | apply List.Sublist.cons)); done))); (try simp only [Act.put, List.setIfInBounds_toArray, List.set_cons_zero, List.set_cons_succ])) | (refine tree_actSkip rfl rfl ?_ ?_ tree_stop; (focus (first | exact S | (refine S.sub (subL HL0 HL ?_); (repeat (first | exact List.Sublist.refl _ | apply List.Sublist.cons)); done))); (try simp only [Act.put, List.setIfInBounds_toArray, List.set_cons_zero, List.set_cons_succ])) | (refine tree_act rfl rfl ?_ tree_stop; intro K hK; go_wp2_with (first | fail); (refine hK.out _ _ ?_ ?_; (focus (first | exact fun _ => S | (intro _; refine S.sub (subL HL0 HL ?_); (repeat (first | exact List.Sublist.refl _ | apply List.Sublist.cons)); done) | (refine sink_no ?_; kernel_rfl))); clear hK K; (try simp only [Act.put, List.setIfInBounds_toArray, List.set_cons_zero, List.set_cons_succ]))))
          refine tree_fin ?_
          go_wp2
          go_ret
          exact ⟨rfl, S.below⟩
      by_cases k2 : kind = 2
      · subst k2
        by_cases hl : p = 0
        · subst hl
          obtain rfl := List.length_eq_zero_iff.1 HN.out
          obtain rfl : b = true := by rw [← hb]; rfl
          clear hallm hb HB
          go_wp2
          go_ret
          exact ⟨rfl, S.below⟩
        · obtain rfl := Ly.ok_not hb (by rw [HN.out]; omega)
          have e2 := bne_of (a := (p : Int)) (b := 0) (by omega)
          clear hallm hb HB
          go_wp2
          go_ret
          exact ⟨rfl, S.below⟩
      by_cases k3 : kind = 3
      · subst k3
        by_cases hl : p = 3
        · subst hl
          obtain ⟨x, y, z, rfl⟩ := len3 HN.out
          obtain ⟨bl, off, rfl, hbl, hc⟩ := HA.out (by omega)
          obtain ⟨r, c, xs⟩ := x
          obtain ⟨r', c', ys⟩ := y
          obtain ⟨r2, c2, zs⟩ := z
          obtain ⟨u, a1, a2, a3, hu⟩ := hc 0 _ rfl
          obtain ⟨u', d1, d2, d3, hu'⟩ := hc 1 _ rfl
          obtain ⟨u2, g1, g2, g3, hu2⟩ := hc 2 _ rfl
          rw [Nat.zero_mul, Nat.add_zero] at a1 a2 a3
          rw [Nat.one_mul] at d1 d2 d3
          rw [show 2 * 3 = 6 from rfl] at g1 g2 g3
          dsimp only at a1 a2 a3 hu d1 d2 d3 hu' g1 g2 g3 hu2
          simp only [List.all_cons, List.all_nil, Bool.and_true, Bool.and_eq_true] at hallm
          obtain ⟨o1, o2, o3⟩ := hallm
          have hfit : (decide (r = c) && likeMx ⟨r, c, xs⟩ ⟨r', c', ys⟩ && likeMx ⟨r, c, xs⟩ ⟨r2, c2, zs⟩) = b := by
            rw [← hb]; simp [Ly.ok, mixFit, likeMx, o1, o2, o3]
          have HU := Lib.hid hu
          have HU' := Lib.hid hu'
          have HU2 := Lib.hid hu2
          obtain ⟨_, A1, cap1, rfl, hcap1, hmax1, _⟩ := hu
          obtain ⟨_, A2, cap2, rfl, hcap2, hmax2, _⟩ := hu'
          obtain ⟨_, A3, cap3, rfl, hcap3, hmax3, _⟩ := hu2
          have q1 := fun w' (S' : St w0 w' L) => (S'.below.cell (p := ⟨bl, off, none⟩) hbl).trans a1
          have q2 := fun w' (S' : St w0 w' L) => (S'.below.cell (p := ⟨bl, off + 1, none⟩) hbl).trans a2
          have q3 := fun w' (S' : St w0 w' L) => (S'.below.cell (p := ⟨bl, off + 2, none⟩) hbl).trans a3
          have q4 := fun w' (S' : St w0 w' L) => (S'.below.cell (p := ⟨bl, off + 3, none⟩) hbl).trans d1
          have q5 := fun w' (S' : St w0 w' L) => (S'.below.cell (p := ⟨bl, off + 3 + 1, none⟩) hbl).trans d2
          have q6 := fun w' (S' : St w0 w' L) => (S'.below.cell (p := ⟨bl, off + 3 + 2, none⟩) hbl).trans d3
          have q7 := fun w' (S' : St w0 w' L) => (S'.below.cell (p := ⟨bl, off + 6, none⟩) hbl).trans g1
          have q8 := fun w' (S' : St w0 w' L) => (S'.below.cell (p := ⟨bl, off + 6 + 1, none⟩) hbl).trans g2
          have q9 := fun w' (S' : St w0 w' L) => (S'.below.cell (p := ⟨bl, off + 6 + 2, none⟩) hbl).trans g3
          clear hc HA hb HB a1 a2 a3 d1 d2 d3 g1 g2 g3 HN o1 o2 o3
          go_wp2
          by_cases h1 : r = c
          · subst h1
            obtain ⟨e1, hl1⟩ : ∃ e, likeMx ⟨r, r, xs⟩ ⟨r', c', ys⟩ = e := ⟨_, rfl⟩
            obtain ⟨e2, hl2⟩ : ∃ e, likeMx ⟨r, r, xs⟩ ⟨r2, c2, zs⟩ = e := ⟨_, rfl⟩
            rw [hl1, hl2] at hfit
            have HL1 := Lib.hid hl1
            have HL2 := Lib.hid hl2
            clear hl1 hl2
            cases e1 with
            | true =>
              obtain rfl : e2 = b := by rw [← hfit]; simp
              clear hfit
              have HL0 := HL; have F0 := F; refine wp_region_tree (S := fun w' => St w0 w' L) (.calm 0 (.calm 1 (.calm 2 (.calm 3 (.calm 4 (.calm 5 (.calm 6 (.calm 7 (.calm 8 (.calm 9 (.calm 10 (.calm 11 (.calm 12 (.calm 13 (.calm 14 (.calm 15 (.calm 16 (.calm 17 (.calm 18 (.calm 19 (.calm 20 (.calm 21 (.calm 22 (.calm 23 (.calm 24 (.calm 25 (.act 26 (.calm 27 (.calm 28 (.calm 29 (.calm 30 (.calm 31 (.calm 32 (.calm 33 (.calm 34 (.calm 35 (.calm 36 (.act 37 (.calm 38 (.calm 39 .fin)) .stop))))))))))) .stop))))))))))))))))))))))))))) (by kernel_rfl) (by kernel_rfl) (by kernel_rfl) (by intro c a d v w h; cases d <;> exact h) ?_; replace S := S.drew
              repeat (first | (first | (refine tree_calm (v := ?_) ?_ rfl (by decide +kernel) rfl ?_ ?_; rotate_left; (focus (first | exact S | (refine S.sub (subL HL0 HL ?_); (repeat (first | exact List.Sublist.refl _ | apply List.Sublist.cons)); done))); (focus (intro w' hS'; (try dsimp only at hS'); go_simp; try rfl)); (try simp only [Act.put, List.setIfInBounds_toArray, List.set_cons_zero, List.set_cons_succ])) | (refine tree_any (v := ?_) ?_ rfl rfl ?_ ?_; rotate_left; (focus (first | exact S | (refine S.sub (subL HL0 HL ?_); (repeat (first | exact List.Sublist.refl _ | apply List.Sublist.cons)); done))); (focus (intro w'; go_simp; try rfl)); (try simp only [Act.put, List.setIfInBounds_toArray, List.set_cons_zero, List.set_cons_succ]))) | (refine tree_skip ?_ rfl rfl ?_; (focus (first | exact S | (refine S.sub (subL HL0 HL ?_); (repeat (first | exact List.Sublist.refl _ | apply List.Sublist.cons)); done))); (try simp only [Act.put, List.setIfInBounds_toArray, List.set_cons_zero, List.set_cons_succ])) | (refine tree_actSkip rfl rfl ?_ ?_ tree_stop; (focus (first | exact S | (refine S.sub (subL HL0 HL ?_); (repeat (first | exact List.Sublist.refl _ | apply List.Sublist.cons)); done))); (try simp only [Act.put, List.setIfInBounds_toArray, List.set_cons_zero, List.set_cons_succ])) | (refine tree_act rfl rfl ?_ tree_stop; intro K hK; go_wp2_with (first | (go_at_call 77; refine (C_spec_l3Like _ _ _ _ _ _ _ _ _ _ (by exact HU.out.at_ S) (by first | exact HU'.out.at_ S | exact HU2.out.at_ S) (by first | exact HL1.out | exact HL2.out)).mono ?_; rintro e w ⟨rfl, hb⟩; replace S := S.grow hb; clear hb)); (refine hK.out _ _ ?_ ?_; (focus (first | exact fun _ => S | (intro _; refine S.sub (subL HL0 HL ?_); (repeat (first | exact List.Sublist.refl _ | apply List.Sublist.cons)); done) | (refine sink_no ?_; kernel_rfl))); clear hK K; (try simp only [Act.put, List.setIfInBounds_toArray, List.set_cons_zero, List.set_cons_succ]))))
              refine tree_fin ?_
              go_wp2
              go_ret
              exact ⟨rfl, S.below⟩
            | false =>
              obtain rfl : b = false := by rw [← hfit]; simp
              clear hfit
              have HL0 := HL; have F0 := F; refine wp_region_tree (S := fun w' => St w0 w' L) (.calm 0 (.calm 1 (.calm 2 (.calm 3 (.calm 4 (.calm 5 (.calm 6 (.calm 7 (.calm 8 (.calm 9 (.calm 10 (.calm 11 (.calm 12 (.calm 13 (.calm 14 (.calm 15 (.calm 16 (.calm 17 (.calm 18 (.calm 19 (.calm 20 (.calm 21 (.calm 22 (.calm 23 (.calm 24 (.calm 25 (.act 26 (.calm 27 (.calm 28 (.calm 29 (.calm 30 (.calm 31 (.calm 32 (.calm 33 (.calm 34 (.calm 35 (.calm 36 (.act 37 (.calm 38 (.calm 39 .fin)) .stop))))))))))) .stop))))))))))))))))))))))))))) (by kernel_rfl) (by kernel_rfl) (by kernel_rfl) (by intro c a d v w h; cases d <;> exact h) ?_; replace S := S.drew
              repeat (first | (first | (refine tree_calm (v := ?_) ?_ rfl (by decide +kernel) rfl ?_ ?_; rotate_left; (focus (first | exact S | (refine S.sub (subL HL0 HL ?_); (repeat (first | exact List.Sublist.refl _ | apply List.Sublist.cons)); done))); (focus (intro w' hS'; (try dsimp only at hS'); go_simp; try rfl)); (try simp only [Act.put, List.setIfInBounds_toArray, List.set_cons_zero, List.set_cons_succ])) | (refine tree_any (v := ?_) ?_ rfl rfl ?_ ?_; rotate_left; (focus (first | exact S | (refine S.sub (subL HL0 HL ?_); (repeat (first | exact List.Sublist.refl _ | apply List.Sublist.cons)); done))); (focus (intro w'; go_simp; try rfl)); (try simp only [Act.put, List.setIfInBounds_toArray, List.set_cons_zero, List.set_cons_succ]))) | (refine tree_skip ?_ rfl rfl ?_; (focus (first | exact S | (refine S.sub (subL HL0 HL ?_); (repeat (first | exact List.Sublist.refl _ | apply List.Sublist.cons)); done))); (try simp only [Act.put, List.setIfInBounds_toArray, List.set_cons_zero, List.set_cons_succ])) | (refine tree_actSkip rfl rfl ?_ ?_ tree_stop; (focus (first | exact S | (refine S.sub (subL HL0 HL ?_); (repeat (first | exact List.Sublist.refl _ | apply List.Sublist.cons)); done))); (try simp only [Act.put, List.setIfInBounds_toArray, List.set_cons_zero, List.set_cons_succ])) | (refine tree_act rfl rfl ?_ tree_stop; intro K hK; go_wp2_with (first | (go_at_call 77; refine (C_spec_l3Like _ _ _ _ _ _ _ _ _ _ (by exact HU.out.at_ S) (by exact HU'.out.at_ S) (by exact HL1.out)).mono ?_; rintro e w ⟨rfl, hb⟩; replace S := S.grow hb; clear hb)); (refine hK.out _ _ ?_ ?_; (focus (first | exact fun _ => S | (intro _; refine S.sub (subL HL0 HL ?_); (repeat (first | exact List.Sublist.refl _ | apply List.Sublist.cons)); done) | (refine sink_no ?_; kernel_rfl))); clear hK K; (try simp only [Act.put, List.setIfInBounds_toArray, List.set_cons_zero, List.set_cons_succ]))))
              refine tree_fin ?_
              go_wp2
              go_ret
              exact ⟨rfl, S.below⟩
          · obtain rfl : b = false := by rw [← hfit]; simp [h1]
            have e2 := bne_of h1
            clear hfit
            have HL0 := HL; have F0 := F; refine wp_region_tree (S := fun w' => St w0 w' L) (.calm 0 (.calm 1 (.calm 2 (.calm 3 (.calm 4 (.calm 5 (.calm 6 (.calm 7 (.calm 8 (.calm 9 (.calm 10 (.calm 11 (.calm 12 (.calm 13 (.calm 14 (.calm 15 (.calm 16 (.calm 17 (.calm 18 (.calm 19 (.calm 20 (.calm 21 (.calm 22 (.calm 23 (.calm 24 (.calm 25 (.act 26 (.calm 27 (.calm 28 (.calm 29 (.calm 30 (.calm 31 (.calm 32 (.calm 33 (.calm 34 (.calm 35 (.calm 36 (.act 37 (.calm 38 (.calm 39 .fin)) .stop))))))))))) .stop))))))))))))))))))))))))))) (by kernel_rfl) (by kernel_rfl) (by kernel_rfl) (by intro c a d v w h; cases d <;> exact h) ?_; replace S := S.drew
            repeat (first | (first | (refine tree_calm (v := ?_) ?_ rfl (by decide +kernel) rfl ?_ ?_; rotate_left; (focus (first | exact S | (refine S.sub (subL HL0 HL ?_); (repeat (first | exact List.Sublist.refl _ | apply List.Sublist.cons)); done))); (focus (intro w' hS'; (try dsimp only at hS'); go_simp; try rfl)); (try simp only [Act.put, List.setIfInBounds_toArray, List.set_cons_zero, List.set_cons_succ])) | (refine tree_any (v := ?_) ?_ rfl rfl ?_ ?_; rotate_left; (focus (first | exact S | (refine S.sub (subL HL0 HL ?_); (repeat (first | exact List.Sublist.refl _ | apply List.Sublist.cons)); done))); (focus (intro w'; go_simp; try rfl)); (try simp only [Act.put, List.setIfInBounds_toArray, List.set_cons_zero, List.set_cons_succ]))) | (refine tree_skip ?_ rfl rfl ?_; (focus (first | exact S | (refine S.sub (subL HL0 HL ?_); (repeat (first | exact List.Sublist.refl _ | apply List.Sublist.cons)); done))); (try simp only [Act.put, List.setIfInBounds_toArray, List.set_cons_zero, List.set_cons_succ])) | (refine tree_actSkip rfl rfl ?_ ?_ tree_stop; (focus (first | exact S | (refine S.sub (subL HL0 HL ?_); (repeat (first | exact List.Sublist.refl _ | apply List.Sublist.cons)); done))); (try simp only [Act.put, List.setIfInBounds_toArray, List.set_cons_zero, List.set_cons_succ])) | (refine tree_act rfl rfl ?_ tree_stop; intro K hK; go_wp2_with (first | fail); (refine hK.out _ _ ?_ ?_; (focus (first | exact fun _ => S | (intro _; refine S.sub (subL HL0 HL ?_); (repeat (first | exact List.Sublist.refl _ | apply List.Sublist.cons)); done) | (refine sink_no ?_; kernel_rfl))); clear hK K; (try simp only [Act.put, List.setIfInBounds_toArray, List.set_cons_zero, List.set_cons_succ]))))
            refine tree_fin ?_
            go_wp2
            go_ret
            exact ⟨rfl, S.below⟩
        · obtain rfl := Ly.ok_not hb (by rw [HN.out]; omega)
          have e2 := bne_of (a := (p : Int)) (b := 3) (by omega)
          clear hallm hb HB
          go_wp2
          have HL0 := HL; have F0 := F; refine wp_region_tree (S := fun w' => St w0 w' L) (.calm 0 (.calm 1 (.calm 2 (.calm 3 (.calm 4 (.calm 5 (.calm 6 (.calm 7 (.calm 8 (.calm 9 (.calm 10 (.calm 11 (.calm 12 (.calm 13 (.calm 14 (.calm 15 (.calm 16 (.calm 17 (.calm 18 (.calm 19 (.calm 20 (.calm 21 (.calm 22 (.calm 23 (.calm 24 (.calm 25 (.act 26 (.calm 27 (.calm 28 (.calm 29 (.calm 30 (.calm 31 (.calm 32 (.calm 33 (.calm 34 (.calm 35 (.calm 36 (.act 37 (.calm 38 (.calm 39 .fin)) .stop))))))))))) .stop))))))))))))))))))))))))))) (by kernel_rfl) (by kernel_rfl) (by kernel_rfl) (by intro c a d v w h; cases d <;> exact h) ?_; replace S := S.drew
          repeat (first | (first | (refine tree_calm (v := ?_) ?_ rfl (by decide +kernel) rfl ?_ ?_; rotate_left; (focus (first | exact S | (refine S.sub (subL HL0 HL ?_); (repeat (first | exact List.Sublist.refl _ | apply List.Sublist.cons)); done))); (focus (intro w' hS'; (try dsimp only at hS'); go_simp; try rfl)); (try simp only [Act.put, List.setIfInBounds_toArray, List.set_cons_zero, List.set_cons_succ])) | (refine tree_any (v := ?_) ?_ rfl rfl ?_ ?_; rotate_left; (focus (first | exact S | (refine S.sub (subL HL0 HL ?_); (repeat (first | exact List.Sublist.refl _ | apply List.Sublist.cons)); done))); (focus (intro w'; go_simp; try rfl)); (try simp only [Act.put, List.setIfInBounds_toArray, List.set_cons_zero, List.set_cons_succ]))) | (refine tree_skip ?_ rfl rfl ?_; (focus (first | exact S | (refine S.sub (subL HL0 HL ?_); (repeat (first | exact List.Sublist.refl _ | apply List.Sublist.cons)); done))); (try simp only [Act.put, List.setIfInBounds_toArray, List.set_cons_zero, List.set_cons_succ])) | (refine tree_actSkip rfl rfl ?_ ?_ tree_stop; (focus (first | exact S | (refine S.sub (subL HL0 HL ?_); (repeat (first | exact List.Sublist.refl _ | apply List.Sublist.cons)); done))); (try simp only [Act.put, List.setIfInBounds_toArray, List.set_cons_zero, List.set_cons_succ])) | (refine tree_act rfl rfl ?_ tree_stop; intro K hK; go_wp2_with (first | fail); (refine hK.out _ _ ?_ ?_; (focus (first | exact fun _ => S | (intro _; refine S.sub (subL HL0 HL ?_); (repeat (first | exact List.Sublist.refl _ | apply List.Sublist.cons)); done) | (refine sink_no ?_; kernel_rfl))); clear hK K; (try simp only [Act.put, List.setIfInBounds_toArray, List.set_cons_zero, List.set_cons_succ]))))
          refine tree_fin ?_
          go_wp2
          go_ret
          exact ⟨rfl, S.below⟩
      obtain rfl := Ly.ok_not hb (by omega)
      have e1 := bne_of k1
      have e2 := bne_of k2
      have e3 := bne_of k3
      clear hallm hb HB
      go_wp2
      go_ret
      exact ⟨rfl, S.below⟩
end Go.Proofs.Ytdfpceobfficfaa
