/- DrRs -/
import Derived.Test.YtjgfjfjboimgdaaGreatY37
import Derived.Test.YtjgfjfjboimgdaaGreatY48
namespace Go.Proofs.YtjgfjfjboimgdaaGreat
set_option linter.unusedSimpArgs false
set_option linter.unusedVariables false
set_option linter.unusedSectionVars false
open Go Go.RowKit
set_option maxHeartbeats 8000000
set_option maxRecDepth 20000
section
def DrawnSLsSMx (w0 : World) (e : Ending) (w' : World) : Prop :=
  ∃ (ls : List SLy) (x : SMx) (s : Int) (v u t : Value), e = .returned (.tuple #[v, .agg #[.int .i64 (x).a.r, .int .i64 (x).a.c, u, .int .i64 (x).b.r, .int .i64 (x).b.c, t], .int .i64 s]) ∧ (ls.length ≤ 5 ∧ ∀ l ∈ ls, SLyFew l) ∧ (x.a.xs.length ≤ 26 ∧ x.b.xs.length ≤ 26) ∧ SeesSLs w' v ls ∧ ((v = .slice none 0 0 ∧ ls = []) ∨ ∃ g cap, v = .slice (some ⟨g, 0, none⟩) ls.length cap) ∧ Ints w' u x.a.xs ∧ Ints w' t x.b.xs ∧ Below w0.heap.size w0 w'
theorem drawn_slsmx {w0 w : World} {M : List Ent} {v u t : Value} {r c r' c' s : Int} {qs : SLsO} {xs ys : List Int} (S : St w0 w M) (hq : qs.length ≤ 5) (hf : ∀ q ∈ qs, SLFew q) (hx : xs.length ≤ 26) (hy : ys.length ≤ 26) (h : ∀ e ∈ entsSL v qs, e ∈ M) (h' : .row 3 1 u xs.length (ints xs) ∈ M) (h2 : .row 3 1 t ys.length (ints ys) ∈ M) : DrawnSLsSMx w0 (.returned (.tuple #[v, .agg #[.int .i64 r, .int .i64 c, u, .int .i64 r', .int .i64 c', t], .int .i64 s])) w := by
  refine ⟨qs.map slyO, ⟨⟨r, c, xs⟩, ⟨r', c', ys⟩⟩, s, v, u, t, rfl, ⟨by rw [List.length_map]; exact hq, fun l hl => ?_⟩, ⟨hx, hy⟩, sees_sls S h, ?_, Sees.own (S.own _ h'), Sees.own (S.own _ h2), S.below⟩
  · obtain ⟨q, hq, rfl⟩ := List.mem_map.1 hl
    exact hf q hq
  · obtain ⟨p, hp⟩ := List.mem_iff_getElem?.1 (h _ List.mem_cons_self)
    rcases S.rowShape (show At M p _ from hp) with ⟨h1, h2⟩ | ⟨g, cap, h1, _⟩
    · exact .inl ⟨h1, by rw [List.length_eq_zero_iff.1 h2]; rfl⟩
    · exact .inr ⟨g, cap, by rw [List.length_map]; exact h1⟩
theorem C_DrawRunShared (v : Value) (w0 : World) (h : Bytes w0 v) : Calls Tryz.prog 30 #[v] w0 (DrawnSLsSMx w0) := by
  have H := Lib.hid h
  clear h
  obtain ⟨L, HL, S⟩ := st_start w0; have F : True := trivial
  go_enter Tryz.func30, Tryz.ntmps30
  go_upto_region 3 with (first | (refine qal HL S zSMx ?_; clear F S HL; intro g3 w L HL S F) | (go_at_call 62; refine (C_l20Open _ w0 _ (H.out)).mono ?_; rintro e w ⟨gr, vr, rfl, hB, T0⟩; have HB := Lib.hid hB; clear hB; have hX := qcl HL S T0; clear F S HL T0; obtain ⟨L, HL, S, F⟩ := hX) | ((go_at_call 63; refine (C_pick _ _ _ _ _ w0 _ (S.front qAt) HB.out ⟨by omega, by omega⟩).mono ?_; rintro e w ⟨ya, rfl, hy0, T0⟩; obtain ⟨L, hM, T⟩ := st_name T0; clear T0; clear F S; (try rw [HL.out] at hM); clear HL; (try simp only [List.eraseIdx_cons_zero, List.eraseIdx_cons_succ] at hM); have HL := Lib.hid hM; clear hM; have S := T; clear T; have F := qFc HL S); have hya := hy0 (by omega); clear hy0; obtain ⟨A, hhA⟩ : ∃ j : Nat, 1 + ya = (j : Int) := ⟨(1 + ya).toNat, by omega⟩))
  go_upto_region 4 with (first | ((go_at_call 63; refine (C_pick _ _ _ _ _ w0 _ (S.front qAt) HB.out ⟨by omega, by omega⟩).mono ?_; rintro e w ⟨yb, rfl, hy0, T0⟩; obtain ⟨L, hM, T⟩ := st_name T0; clear T0; clear F S; (try rw [HL.out] at hM); clear HL; (try simp only [List.eraseIdx_cons_zero, List.eraseIdx_cons_succ] at hM); have HL := Lib.hid hM; clear hM; have S := T; clear T; have F := qFc HL S); have hyb := hy0 (by omega); clear hy0; obtain ⟨B, hhB⟩ : ∃ j : Nat, 1 + yb = (j : Int) := ⟨(1 + yb).toNat, by omega⟩))
  have a1 : 1 ≤ A := by omega
  have a2 : A ≤ 2 := by omega
  have b1 : 1 ≤ B := by omega
  have b2 : B ≤ 2 := by omega
  clear hya hyb hhA hhB
  obtain ⟨A2, hA2⟩ : ∃ A2, A + 1 = A2 := ⟨_, rfl⟩
  have ea : (A : Int) + 1 = (A2 : Int) := by omega
  have a3 : 1 ≤ A2 := by omega
  have a4 : A2 ≤ 3 := by omega
  clear hA2
  go_upto_region 5 with (first | ((go_at_call 71; refine (C_l20SharedNet _ _ _ _ _ _ _ w0 _ ⟨⟨by omega, by omega⟩, by omega, by omega⟩ (by omega) (S.front qAt) HB.out ⟨by omega, by omega⟩).mono ?_; rintro e w ⟨u2, qs, k2, rfl, hk3, hk4, hql, hfw, T0⟩; obtain ⟨L, hM, T⟩ := st_name T0; clear T0; clear F S; (try rw [HL.out] at hM); clear HL; (try simp only [List.eraseIdx_cons_zero, List.eraseIdx_cons_succ] at hM); have HL := Lib.hid hM; clear hM; have S := T; clear T; have F := qFc HL S); have HFW := Lib.hid hfw; clear hfw; rw [HL.out] at S; have T : St w0 _ (_ :: _ :: entsSL _ qs) := S.perm (.cons _ (List.perm_append_comm (l₁ := entsSL _ qs) (l₂ := [_]))); clear S HL F; have S := T; clear T; obtain ⟨L, hM, T⟩ := st_name S; clear S; have S := T; clear T; have HL := Lib.hid hM; clear hM; have F := qFc HL S; unfold entsSL at HL; obtain ⟨A3, k3, rfl, hk5, hm5⟩ := qSl HL S 2))
  go_wp2_with (first | (go_at_call 65; refine (C_odd _ _ _ _ _ w0 _ (S.front qAt) HB.out ⟨by omega, by omega⟩).mono ?_; rintro e w ⟨y, k', rfl, hk1, hk2, T0⟩; obtain ⟨L, hM, T⟩ := st_name T0; clear T0; clear F S; (try rw [HL.out] at hM); clear HL; (try simp only [List.eraseIdx_cons_zero, List.eraseIdx_cons_succ] at hM); have HL := Lib.hid hM; clear hM; have S := T; clear T; have F := qFc HL S) | ((go_at_call 64; refine (C_l20SharedMatrixG _ _ _ _ _ _ _ w0 _ ⟨⟨by omega, by omega⟩, by omega, by omega⟩ (by omega) (S.front qAt) HB.out ⟨by omega, by omega⟩).mono ?_; rintro e w ⟨u4, t4, r4, c4, xs4, r4', c4', ys4, k4, rfl, hxs4, hys4, hka4, hkb4, T0⟩; obtain ⟨L, hM, T⟩ := st_name T0; clear T0; clear F S; (try rw [HL.out] at hM); clear HL; (try simp only [List.eraseIdx_cons_zero, List.eraseIdx_cons_succ] at hM); have HL := Lib.hid hM; clear hM; have S := T; clear T; have F := qFc HL S); obtain ⟨A', cap', rfl, hcap', hmax'⟩ := qSl HL S 0; obtain ⟨A', cap', rfl, hcap', hmax'⟩ := qSl HL S 1) | (go_at_call 66; refine (C_l20Seed _ _ _ _ _ w0 _ (S.front qAt) HB.out ⟨by omega, by omega⟩).mono ?_; rintro e w ⟨sd, ks, rfl, hks1, hks2, T0⟩; obtain ⟨L, hM, T⟩ := st_name T0; clear T0; clear F S; (try rw [HL.out] at hM); clear HL; (try simp only [List.eraseIdx_cons_zero, List.eraseIdx_cons_succ] at hM); have HL := Lib.hid hM; clear hM; have S := T; clear T; have F := qFc HL S) | (refine qst HL S 0 ?_; clear F S HL; intro w L HL S F) | (refine qst HL S 1 ?_; clear F S HL; intro w L HL S F) | (refine qst HL S 2 ?_; clear F S HL; intro w L HL S F) | (refine qst HL S 3 ?_; clear F S HL; intro w L HL S F))
  all_goals
    refine ret3 rfl (show _ = _ from rfl) (by first | exact resCell S HL 3 rfl rfl (by kernel_rfl) | exact resCell S HL 4 rfl rfl (by kernel_rfl)) (show _ = _ from rfl) rfl ?_
    exact drawn_slsmx S hql HFW.out hxs4 hys4 (by rw [HL.out]; intro e he; first | exact List.mem_cons_of_mem _ (List.mem_cons_of_mem _ (List.mem_cons_of_mem _ (List.mem_cons_of_mem _ he)))) (by rw [HL.out]; simp) (by rw [HL.out]; simp)
end
end Go.Proofs.YtjgfjfjboimgdaaGreat
